/-
  The walk of the scanner's piece: a piece of a template.
-/
import Derived.Test.YtcgibcjpkhefpaaGreatDoorW7
namespace Go.Proofs.YtcgibcjpkhefpaaGreatDoor
open Go.RowKit
section
variable {b : Nat} {s : ByteArray} {lv ov : Value} {p : Nat} {ln : Bool} {opn : List Int} {B x : Nat} {l : List UInt8}
theorem info3 : (Tryz.prog.info? 3).map (fun i => (i.zero, i.size, i.bytes)) = some (some (.int .i64 0), 1, 8) := by kernel_rfl
/-- An append may have written into the row that it was given. -/
theorem kf_grown {w w' : World} {row : Option Nat} (h : w.grownBy w' row) : Kf (fun k o => some k = row ∧ w.heap[k]? = some o) w w' :=
  ⟨h.os, h.tape, h.output, h.size, fun k o hk hn => by
    rw [h.block k (lt_of_heap hk) (fun e => hn ⟨e, hk⟩)]; exact hk⟩
/-- .. a row of numbers that the scanner owns. -/
def IsI (b : Nat) : Nat → Obj → Prop := fun k o => b + 1 ≤ k ∧ ∃ c, o = .cells c 3 (0, 0)
theorem kf_own {w0 w w' : World} {v : Value} {n : Nat} {xs : List Value} (hown : w.ownsRow (b + 1) 3 1 v n xs) (h : w.grownBy w' v.ownBlock) (h0 : Kf (IsI b) w0 w) : Kf (IsI b) w0 w' := by
  refine h0.trans ((kf_grown h).weaken (fun k o ho e => ?_))
  rcases hown.2 with ⟨hv, _⟩ | ⟨g, cap, cur, hv, hg, hh, _⟩
  · rw [hv] at e; cases e.1
  · rw [hv] at e
    have e1 : k = g := Option.some.inj e.1
    subst e1
    rw [hh] at ho
    injection ho with ho
    exact ⟨hg, cur, ho.symm⟩
theorem Scn.setOpen {w : World} (h : w.heap[b]? = some (.cells #[.string s, .int .i64 p, .bool ln, ov, lv] 66 (0, 0))) {ov' : Value} {opn' : List Int} (ho : w.ownsRow (b + 1) 3 1 ov' opn'.length (opn'.map (Value.int .i64))) : Scn b s lv p ln ov' opn' (w.setCell ⟨b, 3, none⟩ ov') :=
  ⟨by rw [heap_setSelf h]; rfl, ownsRow_setCell_other ho (own_ne ho) _⟩
/-- What may change while a template's piece is read: the scanner's block, the Builder's, rows of bytes behind it, rows of numbers. -/
def Sy (b x : Nat) : Nat → Obj → Prop := fun k o => Sx b x k o ∨ IsI b k o
theorem sx_sy {w w' : World} (h : Kf (Sx b x) w w') : Kf (Sy b x) w w' := h.weaken (fun _ _ _ e => Or.inl e)
theorem kfy_old {w0 w w' : World} (h0 : Kf (So b) w0 w) (h : Kf (Sy b x) w w') (hx : w0.heap.size ≤ x) (hS : w0.heap[b]? = some (.cells #[.string s, .int .i64 p, .bool ln, ov, lv] 66 (0, 0))) : Kf (Sp b) w0 w' :=
  ⟨h.os.trans h0.os, h.tape.trans h0.tape, h.output.trans h0.output, Nat.le_trans h0.size h.size, fun k o hk hn => by
    have hlt := lt_of_heap hk
    have hkb : k ≠ b := by
      intro e
      subst e
      rw [hS] at hk
      injection hk with hk
      exact hn ⟨Nat.le_refl _, by rw [← hk]; simp [Calm]⟩
    refine h.block k o (h0.block k o hk hkb) (fun e => ?_)
    rcases e with (e | e | e) | ⟨e1, c, e2⟩
    · exact hkb e
    · omega
    · omega
    · exact hn ⟨by omega, by rw [e2]; simp [Calm]⟩⟩
theorem calm_sy {w w' : World} {k : Nat} {c : Array Value} (h : Kf (Sy b x) w w') (hk : w.heap[k]? = some (.cells c 31 (0, 0))) (h1 : k ≠ b) (h2 : k ≠ x) : w'.heap[k]? = some (.cells c 31 (0, 0)) :=
  h.block k _ hk (fun e => by
    rcases e with (e | e | ⟨_, _, _, e⟩) | ⟨_, _, e⟩
    · exact h1 e
    · exact h2 e
    · injection e with _ e _; exact absurd e (by decide)
    · injection e with _ e _; exact absurd e (by decide))
/-- An append onto the open braces: the scanner's block, the Builder, a token's block. -/
theorem grown_blk {w w' : World} (h : Kf (IsI b) w w') (hS : w.heap[b]? = some (.cells #[.string s, .int .i64 p, .bool ln, ov, lv] 66 (0, 0))) : w'.heap[b]? = some (.cells #[.string s, .int .i64 p, .bool ln, ov, lv] 66 (0, 0)) :=
  h.block b _ hS (fun e => by have := e.1; omega)
theorem Bld.grown {w w' : World} (hB : Bld B x l w) (h : Kf (IsI b) w w') : Bld B x l w' :=
  hB.kf h (fun _ e => by obtain ⟨_, _, e⟩ := e; injection e with _ e _; exact absurd e (by decide)) (fun _ _ _ _ e => by obtain ⟨_, _, e⟩ := e; injection e with _ e _; exact absurd e (by decide))
theorem cell_new0 {w : World} {v : Value} {t : TypeId} {k : Nat} (hk : k = w.heap.size) : (w.alloc (.cells #[v] t)).cell? ⟨k, 0, none⟩ = some v := by
  subst hk
  rw [cellN (heap_alloc_new w _) 0]
  rfl
set_option maxHeartbeats 2000000 in
set_option maxRecDepth 100000 in
theorem piece_any (whole part : Nat) (w : World) (hs : s.size ≤ 262144) (hp : p < s.size) (ho : opn.length ≤ 262144) (_hwh : whole ≤ 9) (_hpt : part ≤ 9) (h : Scn b s lv p ln ov opn w) :
    Calls Tryz.prog 81 #[.pointer (some ⟨b, 0, none⟩), .int .i64 whole, .int .i64 part] w (TokPost b s lv ln w (Lx.piece s.data.toList whole part p opn)) := by
  have hlen : s.data.toList.length = s.size := by simp
  obtain ⟨i0, hi, hz0, hz1, hz2⟩ := info_parts info3
  have HI := Lib.hid (And.intro hi (And.intro hz0 (And.intro hz1 hz2)))
  clear hi hz0 hz1 hz2
  have h0 := h.c0
  have h1 := h.c1
  have f1 := h.fz 1
  have hlt : (p : Int) < (s.size : Int) := by omega
  have hbl := h.lt
  have HS := Lib.hid h
  clear h
  go_enter Tryz.func81, Tryz.ntmps81
  go_wp2
  have HG := Lib.hid (rfl : Lx.pieceGo s.data.toList (s.data.toList.length - p) (p + 1) [] = Lx.pieceGo s.data.toList (s.data.toList.length - p) (p + 1) [])
  go_loopw [] (fun wr => ∃ (f q : Nat) (acc : List UInt8), s.size + 1 ≤ f + q ∧ q ≤ s.size ∧ Scn b s lv q ln ov opn wr ∧ Kf (So b) w wr ∧ Bld (w.heap.size + 1) (w.heap.size + 1) acc wr ∧ wr.heap[w.heap.size]? = some (.cells tok0 31 (0, 0)) ∧ acc.length ≤ 4 * q ∧ Lx.pieceGo s.data.toList f q acc = Lx.pieceGo s.data.toList (s.data.toList.length - p) (p + 1) []) (fun wr => s.size - posOf b wr)
  case atStart =>
    refine ⟨s.data.toList.length - p, p + 1, [], by omega, by omega, ?_, ?_, ?_, ?_, by simp, HG.out⟩
    · exact ((HS.out.setTo (x := (p : Int) + 1) (by omega)).alloc _).alloc _
    · exact (((Kf.refl _ _).setB 1 _).alloc _).alloc _
    · have := bld_fresh ((w.setCell ⟨b, 1, none⟩ (.int .i64 ((p : Int) + 1))).alloc (.cells tok0 31))
      rw [show ((w.setCell ⟨b, 1, none⟩ (.int .i64 ((p : Int) + 1))).alloc (.cells tok0 31)).heap.size = w.heap.size + 1 by simp [World.setCell]] at this
      exact this
    · rw [Below.heap_alloc _ _ _ (by simp [World.setCell])]
      have := heap_alloc_new (w.setCell ⟨b, 1, none⟩ (.int .i64 ((p : Int) + 1))) (.cells tok0 31)
      rw [show (w.setCell ⟨b, 1, none⟩ (.int .i64 ((p : Int) + 1))).heap.size = w.heap.size by simp [World.setCell]] at this
      exact this
  case round =>
    obtain ⟨f, q, acc, hf, hqs, hS, hK, hB, hR, hal, hG⟩ := hrel
    obtain ⟨f, rfl⟩ : ∃ f', f = f' + 1 := ⟨f - 1, by omega⟩
    have hbx : b ≠ w.heap.size + 1 := by omega
    have h0 := hS.c0
    have h1 := hS.c1
    have h3 := hS.c3
    have f1 := hS.fz 1
    have f3 := hS.fz 3
    have hpos := posOf_scn hS
    obtain ⟨c, hc⟩ : ∃ c, Lx.pk s.data.toList q = c := ⟨_, rfl⟩
    have HC := Lib.hid hc
    have HS1 := Lib.hid hS
    have HK1 := Lib.hid hK
    have HB1 := Lib.hid hB
    have HR1 := Lib.hid hR
    have HG1 := Lib.hid hG
    have HP1 := Lib.hid hpos
    clear hS hK hB hR hG hc HG hpos
    by_cases hge : s.size ≤ q
    · have hd : decide (s.size ≤ q) = true := by simp; omega
      have FIN := Lib.hid (show Lx.piece s.data.toList whole part p opn = .error p by
        unfold Lx.piece
        rw [← HG1.out]
        simp only [Lx.pieceGo, HC.out]
        rw [if_pos (by rw [hlen]; exact hge)])
      go_wp2_with fail
      refine (peek0 _ (by omega) hqs HS1.out).mono ?_
      rintro e w1 ⟨rfl, n1, rfl⟩
      rw [HC.out]
      go_wp2
      go_quiet (fail)

      go_wp2
      exact ⟨rfl, HS.out.so_sp (HK1.out.drewN _), by rw [FIN.out]; rfl⟩
    have hd : decide (s.size ≤ q) = false := by simp; omega
    have hql : (q : Int) < (s.size : Int) := by omega
    have STEP := Lib.hid (show Lx.pieceGo s.data.toList (f + 1) q acc = if c == 96 then some (acc, q + 1, false) else if Lx.pre [36, 123] s.data.toList q then some (acc, q + 2, true) else if c == 13 then Lx.pieceGo s.data.toList f (if Lx.pk s.data.toList (q + 1) == 10 then q + 2 else q + 1) (acc ++ [0, 10]) else if c == 92 then (match Lx.escape s.data.toList (q + 1) with | none => none | some (u, p') => Lx.pieceGo s.data.toList f p' (acc ++ u)) else Lx.pieceGo s.data.toList f (Lx.plain s.data.toList q).2 (acc ++ (Lx.plain s.data.toList q).1) by
      simp only [Lx.pieceGo, HC.out]
      rw [if_neg (by rw [hlen]; exact hge)]
      rfl)
    clear hge
    by_cases h96 : c = 96
    · subst h96
      have FIN := Lib.hid (show Lx.piece s.data.toList whole part p opn = .ok (⟨whole, [], acc, 0⟩, q + 1, opn) by
        unfold Lx.piece
        rw [← HG1.out, STEP.out]
        rfl)
      go_wp2_with fail
      refine (peek0 _ (by omega) hqs HS1.out).mono ?_
      rintro e w1 ⟨rfl, n1, rfl⟩
      rw [HC.out]
      go_wp2
      go_quiet (fail)

      go_wp2_with fail
      refine (bld_end (Bld.setScn (HB1.out.drewN _) (HS1.out.drewN _) 1 _)).mono ?_
      rintro e w1 ⟨rfl, hW⟩
      have hK2 := (kf_builder (b := b) hW.2.1 hW.2.2)
      have hR2 := calm_sx (k := w.heap.size) hK2 (by rw [Below.heap_setCell _ _ _ _ (by simp only; omega)]; exact HR1.out) (by omega) (by omega)
      have HS2 := Lib.hid (((HS1.out.drewN _).setTo (q := q + 1) (by omega)).wrote (Bld.setScn (HB1.out.drewN _) (HS1.out.drewN _) 1 _) hW.2.2)
      have HK3 := Lib.hid (kf_old ((HK1.out.drewN _).setB 1 _) hK2 (by omega))
      have HR2 := Lib.hid hR2
      clear hW hK2 hR2
      go_wp2_with (refine wpList_store_row rfl 31 (.tmp 6) (.tmp 51) rfl w.heap.size #[.int .i64 whole, .string ⟨#[]⟩, .string ⟨acc.toArray⟩, .float .f64 0, .int .i64 0, .int .i64 0, .bool false] rfl rfl 31 tok0 HR2.out size31 rfl (tok_one _ _ _ _ _ _ _) ?_)
      go_wp2
      refine bodyPost_ret (v := tokV ⟨whole, [], acc, 0⟩ 0 0 false) (results_row rfl rfl (setRow_heap _ _ _ _ _ _ HR2.out) rfl) rfl ?_

      exact ⟨HS.out.so_sp (HK3.out.setRowNew (Nat.le_refl _) _), by rw [FIN.out]; exact ⟨ov, rfl, HS2.out.setRow HR2.out _⟩⟩
    have t96 : ((c.toNat : Int) == 96) = false := toNat_ne h96
    cases hh : Lx.pre [36, 123] s.data.toList q with
    | true =>
      have hle := pre_le hh (by omega)
      rw [hlen] at hle
      simp only [List.length_cons, List.length_nil] at hle
      have HH := Lib.hid hh
      have FIN := Lib.hid (show Lx.piece s.data.toList whole part p opn = .ok (⟨part, [], acc, 0⟩, q + 2, opn ++ [0]) by
        unfold Lx.piece
        rw [← HG1.out, STEP.out, if_neg (by simpa using h96), if_pos hh])
      clear hh h96
      go_wp2_with fail
      refine (peek0 _ (by omega) hqs HS1.out).mono ?_
      rintro e w1 ⟨rfl, n1, rfl⟩
      rw [HC.out]
      go_wp2
      go_quiet (fail)

      go_wp2_with fail
      refine (has_any _ _ (by omega) hqs (HS1.out.drewN _)).mono ?_
      rintro e w1 ⟨rfl, n2, rfl⟩
      rw [show Lx.pre (⟨#[36, 123]⟩ : ByteArray).data.toList s.data.toList q = true from HH.out]

      have HO := Lib.hid (((HS1.out.drewN (n1 + nq + n2)).setTo (x := (q : Int) + 2) (q := q + 2) (by omega)).own)
      go_wp2_with (at_builtin; refine wpList_append_own _ rfl _ _ 48 rfl (b + 1) 3 i0 (.int .i64 0) 1 8 Tryz.underlying48 HI.out.1 HI.out.2.1 HI.out.2.2.1 HI.out.2.2.2 rfl (by decide) _ _ _ rfl (HO.out.alloc _) ⟨wr.heap.size, 0, none⟩ 1 1 [.int .i64 0] rfl rfl ?c1 ?c2 ?c3 ?c4 ?c5 ?_)
      case c1 =>
        intro j u hj
        match j, hj with
        | 0, hj => simp at hj; subst hj; exact cell_new0 (by simp [World.setCell])
      case c2 => intro u hu; simp at hu; subst hu; rfl
      case c3 => unfold maxLen; omega
      case c4 => omega
      case c5 => have := HS1.out.lt; simp; omega
      intro v' w2 hown' hgrow _
      have HX := Lib.hid hown'
      have HY := Lib.hid hgrow
      clear hown' hgrow
      have HKY := Lib.hid (kf_own (b := b) (HO.out.alloc (.cells #[.int .i64 0] 3)) HY.out ((Kf.refl _ _).alloc _))
      have HBK := Lib.hid (grown_blk HKY.out ((HS1.out.drewN (n1 + nq + n2)).setTo (x := (q : Int) + 2) (q := q + 2) (by omega)).blk)
      have k3 : w2.cell? ⟨b, 3, none⟩ = some ov := by simp [World.cell?, HBK.out]
      have g3 : w2.frozen? ⟨b, 3, none⟩ = false := by simp [World.frozen?, HBK.out]
      have HB2 := Lib.hid ((Bld.setScn (HB1.out.drewN (n1 + nq + n2)) (HS1.out.drewN (n1 + nq + n2)) 1 (.int .i64 ((q : Int) + 2))).grown HKY.out)
      obtain ⟨g, cap, rfl⟩ : ∃ g cap, v' = .slice (some ⟨g, 0, none⟩) (opn.length + 1) cap := by
        rcases HX.out.2 with ⟨_, h0⟩ | ⟨g, cap, cur, hv, _⟩
        · omega
        · exact ⟨g, cap, hv⟩
      have HS2 := Lib.hid (Scn.setOpen (opn' := opn ++ [0]) HBK.out (by simpa using HX.out))
      have HB3 := Lib.hid (show Bld (w.heap.size + 1) (w.heap.size + 1) acc (w2.setCell ⟨b, 3, none⟩ (.slice (some ⟨g, 0, none⟩) (opn.length + 1) cap)) from Bld.kf HB2.out (S := fun k o => k = b ∧ w2.heap[b]? = some o) (Kf.set (a := ⟨b, 3, none⟩) (Kf.refl _ _) (fun o ho => ⟨rfl, ho⟩) _) (fun _ e => by have e := e.2; rw [HBK.out] at e; injection e with e; injection e with _ e _; exact absurd e (by decide)) (fun _ _ _ _ e => by have e := e.2; rw [HBK.out] at e; injection e with e; injection e with _ e _; exact absurd e (by decide)))
      go_wp2_with fail
      refine (bld_end HB3.out).mono ?_
      rintro e w3 ⟨rfl, hW⟩
      have HKS := Lib.hid (show Kf (Sy b (w.heap.size + 1)) ((wr.drewN (n1 + nq + n2)).setCell ⟨b, 1, none⟩ (.int .i64 ((q : Int) + 2))) w3 from
        ((Kf.set (S := Sy b (w.heap.size + 1)) (a := ⟨b, 3, none⟩) (HKY.out.weaken (fun _ _ _ e => Or.inr e)) (fun _ _ => Or.inl (Or.inl rfl)) _)).trans (sx_sy (kf_builder (b := b) hW.2.1 hW.2.2)))
      have HR2 := Lib.hid (calm_sy (k := w.heap.size) HKS.out (by rw [Below.heap_setCell _ _ _ _ (by simp only; omega)]; exact HR1.out) (by omega) (by omega))
      have HS3 := Lib.hid (HS2.out.wrote HB3.out hW.2.2)
      have HK3 := Lib.hid (kfy_old ((HK1.out.drewN (n1 + nq + n2)).setB 1 (.int .i64 ((q : Int) + 2))) HKS.out (by omega) HS.out.blk)
      clear hW
      go_wp2_with (refine wpList_store_row rfl 31 (.tmp 6) (.tmp 73) rfl w.heap.size #[.int .i64 part, .string ⟨#[]⟩, .string ⟨acc.toArray⟩, .float .f64 0, .int .i64 0, .int .i64 0, .bool false] rfl rfl 31 tok0 HR2.out size31 rfl (tok_one _ _ _ _ _ _ _) ?_)
      go_wp2
      refine bodyPost_ret (v := tokV ⟨part, [], acc, 0⟩ 0 0 false) (results_row rfl rfl (setRow_heap _ _ _ _ _ _ HR2.out) rfl) rfl ?_

      exact ⟨HK3.out.setRowNew (Nat.le_refl _) _, by rw [FIN.out]; exact ⟨_, rfl, HS3.out.setRow HR2.out _⟩⟩
    | false =>
      have HH := Lib.hid hh
      have STEP := Lib.hid (show Lx.pieceGo s.data.toList (f + 1) q acc = if c == 13 then Lx.pieceGo s.data.toList f (if Lx.pk s.data.toList (q + 1) == 10 then q + 2 else q + 1) (acc ++ [0, 10]) else if c == 92 then (match Lx.escape s.data.toList (q + 1) with | none => none | some (u, p') => Lx.pieceGo s.data.toList f p' (acc ++ u)) else Lx.pieceGo s.data.toList f (Lx.plain s.data.toList q).2 (acc ++ (Lx.plain s.data.toList q).1) by
        rw [STEP.out, if_neg (by simpa using h96), if_neg (by rw [hh]; decide)])
      clear hh h96
      by_cases h13 : c = 13
      · subst h13
        have HN := Lib.hid (show Lx.pieceGo s.data.toList (f + 1) q acc = Lx.pieceGo s.data.toList f (if Lx.pk s.data.toList (q + 1) == 10 then q + 2 else q + 1) (acc ++ [0, 10]) by rw [STEP.out]; rfl)
        obtain ⟨d, hd1⟩ : ∃ d, Lx.pk s.data.toList (q + 1) = d := ⟨_, rfl⟩
        have HD := Lib.hid hd1
        by_cases hd10 : d = 10
        · subst hd10
          have hq2 : q + 1 < s.data.toList.length := Lx.pk_lt (by rw [hd1]; decide)
          rw [hlen] at hq2
          clear hd1
          go_wp2_with fail
          refine (peek0 _ (by omega) hqs HS1.out).mono ?_
          rintro e w1 ⟨rfl, n1, rfl⟩
          rw [HC.out]
          go_wp2
          go_quiet (fail)

          go_wp2_with fail
          refine (has_any _ _ (by omega) hqs (HS1.out.drewN _)).mono ?_
          rintro e w1 ⟨rfl, n2, rfl⟩
          rw [show Lx.pre (⟨#[36, 123]⟩ : ByteArray).data.toList s.data.toList q = false from HH.out]

          go_wp2_with fail
          refine (peek0 _ (by omega) (by omega) ((HS1.out.drewN _).setTo (x := (q : Int) + 1) (q := q + 1) (by omega))).mono ?_
          rintro e w1 ⟨rfl, n3, rfl⟩
          rw [HD.out]
          go_wp2_with fail
          refine (put_any 10 (by decide) (Bld.setScn ((Bld.setScn (HB1.out.drewN _) (HS1.out.drewN _) 1 _).drewN _) (((HS1.out.drewN _).setTo (x := (q : Int) + 1) (q := q + 1) (by omega)).drewN _) 1 _) (by omega)).mono ?_
          rintro e w2 ⟨rfl, hW⟩
          have hK2 := (kf_builder (b := b) hW.2.1 hW.2.2)
          have HR2 := Lib.hid (calm_sx (k := w.heap.size) hK2 (by rw [Below.heap_setCell _ _ _ _ (by simp only; omega)]; show (World.setCell _ _ _).heap[_]? = _; rw [Below.heap_setCell _ _ _ _ (by simp only; omega)]; exact HR1.out) (by omega) (by omega))
          have HS2 := Lib.hid (((((HS1.out.drewN (n1 + nq + n2)).setTo (x := (q : Int) + 1) (q := q + 1) (by omega)).drewN n3).setTo (x := (q : Int) + 1 + 1) (q := q + 2) (by omega)).wrote (Bld.setScn ((Bld.setScn (HB1.out.drewN _) (HS1.out.drewN _) 1 _).drewN _) (((HS1.out.drewN _).setTo (x := (q : Int) + 1) (q := q + 1) (by omega)).drewN _) 1 _) hW.2.2)
          have HK3 := Lib.hid (kf_old ((((HK1.out.drewN (n1 + nq + n2)).setB 1 (.int .i64 ((q : Int) + 1))).drewN n3).setB 1 (.int .i64 ((q : Int) + 1 + 1))) hK2 (by omega))
          have HB2 := Lib.hid hW.1
          clear hW hK2
          go_wp2_with fail
          go_roundw
          case rel => exact ⟨f, q + 2, acc ++ [0, 10], by omega, by omega, HS2.out, HK3.out, HB2.out, HR2.out, by simp; omega, by rw [← HG1.out, HN.out, HD.out]; rfl⟩
          case measure => rw [posOf_scn HS2.out, HP1.out]; omega
        · have t10 : ((d.toNat : Int) == 10) = false := toNat_ne hd10
          have HD10 := Lib.hid hd10
          clear hd10 hd1
          go_wp2_with fail
          refine (peek0 _ (by omega) hqs HS1.out).mono ?_
          rintro e w1 ⟨rfl, n1, rfl⟩
          rw [HC.out]
          go_wp2
          go_quiet (fail)

          go_wp2_with fail
          refine (has_any _ _ (by omega) hqs (HS1.out.drewN _)).mono ?_
          rintro e w1 ⟨rfl, n2, rfl⟩
          rw [show Lx.pre (⟨#[36, 123]⟩ : ByteArray).data.toList s.data.toList q = false from HH.out]

          go_wp2_with fail
          refine (peek0 _ (by omega) (by omega) ((HS1.out.drewN _).setTo (x := (q : Int) + 1) (q := q + 1) (by omega))).mono ?_
          rintro e w1 ⟨rfl, n3, rfl⟩
          rw [HD.out]
          go_wp2_with fail
          refine (put_any 10 (by decide) ((Bld.setScn (HB1.out.drewN _) (HS1.out.drewN _) 1 _).drewN _) (by omega)).mono ?_
          rintro e w2 ⟨rfl, hW⟩
          have hK2 := (kf_builder (b := b) hW.2.1 hW.2.2)
          have HR2 := Lib.hid (calm_sx (k := w.heap.size) hK2 (by show (World.setCell _ _ _).heap[_]? = _; rw [Below.heap_setCell _ _ _ _ (by simp only; omega)]; exact HR1.out) (by omega) (by omega))
          have HS2 := Lib.hid ((((HS1.out.drewN (n1 + nq + n2)).setTo (x := (q : Int) + 1) (q := q + 1) (by omega)).drewN n3).wrote ((Bld.setScn (HB1.out.drewN _) (HS1.out.drewN _) 1 _).drewN _) hW.2.2)
          have HK3 := Lib.hid (kf_old (((HK1.out.drewN (n1 + nq + n2)).setB 1 (.int .i64 ((q : Int) + 1))).drewN n3) hK2 (by omega))
          have HB2 := Lib.hid hW.1
          clear hW hK2
          go_wp2_with fail
          go_roundw
          case rel => exact ⟨f, q + 1, acc ++ [0, 10], by omega, by omega, HS2.out, HK3.out, HB2.out, HR2.out, by simp; omega, by rw [← HG1.out, HN.out, HD.out, if_neg (by simpa using HD10.out)]⟩
          case measure => rw [posOf_scn HS2.out, HP1.out]; omega
      have t13 : ((c.toNat : Int) == 13) = false := toNat_ne h13
      by_cases h92 : c = 92
      · subst h92
        go_wp2_with fail
        refine (peek0 _ (by omega) hqs HS1.out).mono ?_
        rintro e w1 ⟨rfl, n1, rfl⟩
        rw [HC.out]
        go_wp2
        go_quiet (fail)

        go_wp2_with fail
        refine (has_any _ _ (by omega) hqs (HS1.out.drewN _)).mono ?_
        rintro e w1 ⟨rfl, n2, rfl⟩
        rw [show Lx.pre (⟨#[36, 123]⟩ : ByteArray).data.toList s.data.toList q = false from HH.out]

        go_wp2_with fail
        refine (esc_any p _ (by omega) (by omega) ((HS1.out.drewN _).setTo (x := (q : Int) + 1) (q := q + 1) (by omega)) (Bld.setScn (HB1.out.drewN _) (HS1.out.drewN _) 1 _) (Nat.le_refl _) (by omega)).mono ?_
        rintro e w1 ⟨hK2, hP⟩
        have HK2 := Lib.hid hK2
        have HK3 := Lib.hid (kf_old ((HK1.out.drewN _).setB 1 _) hK2 (by omega))
        have HR2 := Lib.hid (calm_sx (k := w.heap.size) hK2 (by rw [Below.heap_setCell _ _ _ _ (by simp only; omega)]; exact HR1.out) (by omega) (by omega))
        cases hE : Lx.escape s.data.toList (q + 1) with
        | none =>
          rw [hE] at hP
          have he : e = wrongAt p := hP
          have FIN := Lib.hid (show Lx.piece s.data.toList whole part p opn = .error p by
            unfold Lx.piece
            rw [← HG1.out, STEP.out, if_neg (by decide), if_pos (by decide), hE])
          clear hP hK2 hE
          subst he
          unfold wrongAt
          go_wp2
          exact ⟨rfl, HS.out.so_sp HK3.out, by rw [FIN.out]; rfl⟩
        | some r =>
          obtain ⟨u, q'⟩ := r
          rw [hE] at hP
          obtain ⟨he, hS3, hB3⟩ := hP
          have hle := Lx.escape_le hE
          rw [hlen] at hle
          have NXT := Lib.hid (show Lx.pieceGo s.data.toList (f + 1) q acc = Lx.pieceGo s.data.toList f q' (acc ++ u) by
            rw [STEP.out, if_neg (by decide), if_pos (by decide), hE])
          have HS3 := Lib.hid hS3
          have HB3 := Lib.hid hB3
          clear hS3 hB3 hK2 hE
          subst he
          go_wp2_with fail
          go_roundw
          case rel => exact ⟨f, q', acc ++ u, by omega, hle.2.1, HS3.out, HK3.out, HB3.out, HR2.out, by simp; omega, by rw [← HG1.out, NXT.out]⟩
          case measure => rw [posOf_scn HS3.out, HP1.out]; omega
      · have hc92 : ((c.toNat : Int) == 92) = false := toNat_ne h92
        have hle := Lx.plain_le (l := s.data.toList) (p := q) (by omega)
        rw [hlen] at hle
        have NXT := Lib.hid (show Lx.pieceGo s.data.toList (f + 1) q acc = Lx.pieceGo s.data.toList f (Lx.plain s.data.toList q).2 (acc ++ (Lx.plain s.data.toList q).1) by
          rw [STEP.out, if_neg (by simpa using h13), if_neg (by simpa using h92)])
        clear h13 h92
        go_wp2_with fail
        refine (peek0 _ (by omega) hqs HS1.out).mono ?_
        rintro e w1 ⟨rfl, n1, rfl⟩
        rw [HC.out]
        go_wp2
        go_quiet (fail)

        go_wp2_with fail
        refine (has_any _ _ (by omega) hqs (HS1.out.drewN _)).mono ?_
        rintro e w1 ⟨rfl, n2, rfl⟩
        rw [show Lx.pre (⟨#[36, 123]⟩ : ByteArray).data.toList s.data.toList q = false from HH.out]

        go_wp2_with fail
        refine (plain_any _ (by omega) (by omega) (HS1.out.drewN _) (HB1.out.drewN _) (Nat.le_refl _) (by omega)).mono ?_
        rintro e w1 ⟨rfl, hK2, hS3, hB3⟩
        have HK3 := Lib.hid (kf_old (HK1.out.drewN _) hK2 (by omega))
        have HR2 := Lib.hid (calm_sx (k := w.heap.size) hK2 HR1.out (by omega) (by omega))
        have HS3 := Lib.hid hS3
        have HB3 := Lib.hid hB3
        clear hS3 hB3 hK2
        go_wp2_with fail
        go_roundw
        case rel => exact ⟨f, (Lx.plain s.data.toList q).2, acc ++ (Lx.plain s.data.toList q).1, by omega, hle.2.1, HS3.out, HK3.out, HB3.out, HR2.out, by simp; omega, by rw [← HG1.out, NXT.out]⟩
        case measure => rw [posOf_scn HS3.out, HP1.out]; omega
end
end Go.Proofs.YtcgibcjpkhefpaaGreatDoor

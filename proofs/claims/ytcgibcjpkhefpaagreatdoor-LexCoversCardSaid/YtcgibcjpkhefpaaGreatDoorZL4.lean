/-
  The law LexCovers, walked: true at every text.
-/
import Derived.Test.YtcgibcjpkhefpaaGreatDoorZM
import Derived.Test.YtcgibcjpkhefpaaGreatDoorZQ
import Derived.Test.YtcgibcjpkhefpaaGreatDoorZY6
namespace Go.Lx
theorem endAt_some {ts : List Tok} {j : Nat} {t : Tok} (h : ts[j]? = some t) : endAt ts (j + 1) = t.till := by
  simp [endAt, h]
end Go.Lx
namespace Go.Proofs.YtcgibcjpkhefpaaGreatDoor
open Go.RowKit
/-- What the law asks of the memory. -/
structure ReadyC (w : World) : Prop where
  rd : Ready w
  pf : PfOk w
  it : ItOk w
  ut : UtOk w
theorem litC_of (s : ByteArray) (w0 : World) (h : ReadyC w0) (hs : s.size ≤ 262144) : LitC s w0 := fun p w _ hb =>
  (literal_any (s.extract p s.size) w0 w hb h.pf h.it h.rd.max (by rw [ByteArray.size_extract]; omega)).mono fun _ _ h => lit_uni h
theorem toksC_at : ∀ (ts : List Lx.Tok) (j : Nat) (t : Lx.Tok), ts[j]? = some t → ∀ i, i < 7 → (toksC ts)[j * 7 + i]? = (tokC t)[i]?
  | [], j, t, h, _, _ => by simp at h
  | u :: us, 0, t, h, i, hi => by
    have h : u = t := by simpa using h
    subst h
    show (tokC u ++ toksC us)[0 * 7 + i]? = _
    rw [List.getElem?_append_left (by simp [tokC]; omega)]
    congr 1; omega
  | u :: us, j + 1, t, h, i, hi => by
    have h : us[j]? = some t := by simpa using h
    have ih := toksC_at us j t h i hi
    show (tokC u ++ toksC us)[(j + 1) * 7 + i]? = _
    have hl : (tokC u).length = 7 := rfl
    rw [List.getElem?_append_right (by omega), hl, ← ih]
    congr 1; omega
theorem piece_bytes (s : ByteArray) (a b : Nat) : (s.extract a b ++ ⟨#[10]⟩).data.toList = (s.data.toList.drop a).take (b - a) ++ [10] := by
  simp [ByteArray.data_append, ByteArray.data_extract, List.extract_eq_take_drop]
set_option maxHeartbeats 8000000 in
set_option maxRecDepth 100000 in
theorem covers_law0 (s : ByteArray) (w : World) (hR : ReadyC w) (hCC : s.size ≤ 3000 → CmC s w) :
    Calls Tryz.prog 4 #[.string s] w fun e w' => e = .returned (.bool true) ∧ Below w.heap.size w w' := by
  have HR := Lib.hid hR
  clear hR
  by_cases hs : 3000 < s.size
  · have hd : decide ((3000 : Int) < (s.size : Int)) = true := by simp; omega
    clear hCC
    go_enter Tryz.func4, Tryz.ntmps4
    go_wp2_with fail
    refine (awake_any w _ HR.out.rd.max HR.out.rd.fv (Below.refl _ _) HR.out.rd.tab).mono ?_
    rintro e w1 ⟨rfl, hb⟩
    go_wp2_with fail
    exact bodyPost_ret (v := .bool true) (by simp [results, Tryz.results4]) rfl ⟨rfl, hb⟩
  · have hd : decide ((3000 : Int) < (s.size : Int)) = false := by simp; omega
    have hlen : s.data.toList.length = s.size := by simp
    have HSC := Lib.hid (fun w1 hG => scan_cov s w w1 (hCC (by omega)) (litC_of s w HR.out (by omega)) HR.out.rd.max HR.out.ut hG (by omega) HR.out.rd.tab)
    clear hCC
    go_enter Tryz.func4, Tryz.ntmps4
    go_wp2_with fail
    refine (awake_any w _ HR.out.rd.max HR.out.rd.fv (Below.refl _ _) HR.out.rd.tab).mono ?_
    rintro e w1 ⟨rfl, hb1⟩
    have HB1 := Lib.hid hb1
    clear hb1
    go_wp2_with fail
    refine (HSC.out _ HB1.out).mono ?_
    rintro e w2 ⟨hb2, ⟨ts, v, rfl, ho, hcov, htl, hch⟩ | ⟨a, c, hc0, rfl⟩⟩
    · have HB2 := Lib.hid (HB1.out.trans (hb2.mono HB1.out.size))
      obtain ⟨us, t, hts, hk0, hfrm⟩ := hcov.last
      obtain ⟨m, hm⟩ : ∃ m, us.length = m := ⟨_, rfl⟩
      have htm : ts[m]? = some t := by rw [hts, ← hm]; simp
      have hn : ts.length = m + 1 := by rw [hts]; simp [hm]
      obtain ⟨g, cap, rfl, hcp, hg1, hg2, hcell⟩ := row_cells ho (by omega)
      have HCELL := Lib.hid (fun (j : Nat) (u : Lx.Tok) (hu : ts[j]? = some u) (i : Nat) (hi : i < 7) (x : Value) (hx : (tokC u)[i]? = some x) => hcell (j * 7 + i) x (by rw [toksC_at ts j u hu i hi]; exact hx) (by have := (List.getElem?_eq_some_iff.1 hu).1; omega))
      have HCOV := Lib.hid hcov.cov
      have HCH := Lib.hid hch
      have HTS := Lib.hid (show ∀ j, j < m + 1 → ∃ u, ts[j]? = some u from fun j hj => ⟨_, List.getElem?_eq_getElem (by omega)⟩)
      have k0 : w2.cell? ⟨g, m * 7, none⟩ = some (.int .i64 0) := by
        have := HCELL.out m t htm 0 (by omega) (.int .i64 t.tk.kind) rfl
        rw [hk0] at this
        exact this
      have k4 : w2.cell? ⟨g, m * 7 + 4, none⟩ = some (.int .i64 s.size) := by
        have := HCELL.out m t htm 4 (by omega) (.int .i64 t.frm) rfl
        rw [hfrm, hlen] at this
        exact this
      rw [hn] at hcp ho ⊢
      clear hcell ho hcov hch hts hk0 hfrm hb2
      have hw : IntKind.i64.wrap (((m + 1 : Nat) : Int) - 1) = (m : Int) := by rw [IntWalk.i64_in _ (by omega)]; omega
      obtain ⟨n, hnn⟩ : ∃ n, m + 1 = n := ⟨_, rfl⟩
      rw [hnn] at hw hcp ⊢
      have hmn : (m : Int) < n := by omega
      have hm0 : (0 : Int) ≤ m := by omega
      have hnz : ((n : Int) == 0) = false := by simp; omega
      have hadd : ∀ o : Nat, (⟨g, 0, none⟩ : Addr).add o = ⟨g, o, none⟩ := fun o => by unfold Addr.add; split <;> simp_all
      go_upto_region 10 with fail
      clear k0 k4 hw hnz hm0 hmn htm hcp
      have HG2 := Lib.hid hg2
      go_wp2
      go_loopw [6, 52] (fun x i wr => ∃ j : Nat, i = .int .i64 j ∧ j ≤ n ∧ x = .int .i64 (Lx.endAt ts j) ∧ Below w2.heap.size w2 wr) (fun _ i _ => n - (intOf i).toNat)
      case atStart => exact ⟨0, rfl, by omega, rfl, Below.refl _ _⟩
      case round =>
        obtain ⟨j, rfl, hj, rfl, hB⟩ := hrel
        have HB := Lib.hid hB
        clear hB
        by_cases hlt : j < n
        · obtain ⟨t, ht⟩ := HTS.out j (by omega)
          have hcv := HCOV.out j t ht
          have HE := Lib.hid (Lx.endAt_some ht)
          have HPC := Lib.hid (hcv.piece HCH.out)
          have q1 := hcv.ge
          have q2 := hcv.ft
          have q3 := hcv.sz
          have q4 := hcv.ne
          have HC := Lib.hid (fun (i : Nat) (hi : i < 7) (x : Value) (hx : (tokC t)[i]? = some x) => show wr.cell? ⟨g, j * 7 + i, none⟩ = some x by
            rw [HB.out.cell (p := ⟨g, j * 7 + i, none⟩) HG2.out]; exact HCELL.out j t ht i hi x hx)
          have k0 : wr.cell? ⟨g, j * 7, none⟩ = some (.int .i64 t.tk.kind) := HC.out 0 (by omega) _ rfl
          have k1 : wr.cell? ⟨g, j * 7 + 1, none⟩ = some (.string ⟨t.tk.text.toArray⟩) := HC.out 1 (by omega) _ rfl
          have k2 : wr.cell? ⟨g, j * 7 + 2, none⟩ = some (.string ⟨t.tk.str.toArray⟩) := HC.out 2 (by omega) _ rfl
          have k3 : wr.cell? ⟨g, j * 7 + 3, none⟩ = some (.float .f64 t.tk.num) := HC.out 3 (by omega) _ rfl
          have k4 : wr.cell? ⟨g, j * 7 + 4, none⟩ = some (.int .i64 t.frm) := HC.out 4 (by omega) _ rfl
          have k5 : wr.cell? ⟨g, j * 7 + 5, none⟩ = some (.int .i64 t.till) := HC.out 5 (by omega) _ rfl
          have k6 : wr.cell? ⟨g, j * 7 + 6, none⟩ = some (.bool t.line) := HC.out 6 (by omega) _ rfl
          rw [hlen] at q3
          generalize Lx.endAt ts j = a at *
          clear hcv ht
          have hji : (j : Int) < n := by omega
          go_upto_region 14 with (refine wpList_store_row rfl 31 (.tmp 8) (.tmp 55) rfl wr.heap.size #[.int .i64 t.tk.kind, .string ⟨t.tk.text.toArray⟩, .string ⟨t.tk.str.toArray⟩, .float .f64 t.tk.num, .int .i64 t.frm, .int .i64 t.till, .bool t.line] rfl rfl 31 tok0 (heap_alloc_new wr _) size31 rfl (tok_one _ _ _ _ _ _ _) ?_)
          have HRW := Lib.hid (setRow_heap (wr.alloc (.cells tok0 31)) wr.heap.size _ #[.int .i64 t.tk.kind, .string ⟨t.tk.text.toArray⟩, .string ⟨t.tk.str.toArray⟩, .float .f64 t.tk.num, .int .i64 t.frm, .int .i64 t.till, .bool t.line] 31 (0, 0) (heap_alloc_new wr _))
          have HBZ := Lib.hid (show Below w2.heap.size w2 ((wr.alloc (.cells tok0 31)).setRow wr.heap.size #[.int .i64 t.tk.kind, .string ⟨t.tk.text.toArray⟩, .string ⟨t.tk.str.toArray⟩, .float .f64 t.tk.num, .int .i64 t.frm, .int .i64 t.till, .bool t.line]) from
            ((Kf.of_below (fun _ _ => False) (HB.out.alloc HB.out.size (.cells tok0 31))).setRowNew HB.out.size _).below (Nat.le_refl _) (fun _ _ h => h.elim))
          have HKZ := Lib.hid (show wr.heap.size < ((wr.alloc (.cells tok0 31)).setRow wr.heap.size #[.int .i64 t.tk.kind, .string ⟨t.tk.text.toArray⟩, .string ⟨t.tk.str.toArray⟩, .float .f64 t.tk.num, .int .i64 t.frm, .int .i64 t.till, .bool t.line]).heap.size from lt_of_heap HRW.out)
          clear k0 k1 k2 k3 k4 k5 k6
          generalize hwz : World.setRow _ _ _ = wz
          have HRZ := Lib.hid (show wz.heap[wr.heap.size]? = some (.cells #[.int .i64 t.tk.kind, .string ⟨t.tk.text.toArray⟩, .string ⟨t.tk.str.toArray⟩, .float .f64 t.tk.num, .int .i64 t.frm, .int .i64 t.till, .bool t.line] 31 (0, 0)) by rw [← hwz]; exact HRW.out)
          have HBY := Lib.hid (show Below w2.heap.size w2 wz by rw [← hwz]; exact HBZ.out)
          have HKY := Lib.hid (show wr.heap.size < wz.heap.size by rw [← hwz]; exact HKZ.out)
          clear hwz HRW HBZ HKZ
          generalize wr.heap.size = k at *
          have z0 : wz.cell? ⟨k, 0, none⟩ = some (.int .i64 t.tk.kind) := by rw [cellN HRZ.out 0]; rfl
          have z4 : wz.cell? ⟨k, 4, none⟩ = some (.int .i64 t.frm) := by rw [cellN HRZ.out 4]; rfl
          have z5 : wz.cell? ⟨k, 5, none⟩ = some (.int .i64 t.till) := by rw [cellN HRZ.out 5]; rfl
          have r1 : decide ((t.frm : Int) < (a : Int)) = false := by simp; omega
          have r2 : decide ((t.till : Int) < (t.frm : Int)) = false := by simp; omega
          have r3 : decide ((s.size : Int) < (t.till : Int)) = false := by simp; omega
          have r4 : (t.frm : Int) ≤ (s.size : Int) := by omega
          have r5 : (a : Int) ≤ (t.frm : Int) := by omega
          have HPB := Lib.hid (piece_bytes s a t.frm)
          have hpl : ((s.data.toList.drop a).take (t.frm - a) ++ [10]).length = t.frm - a + 1 := by simp; omega
          have hps : (s.extract a t.frm ++ ⟨#[10]⟩).size = t.frm - a + 1 := by
            rw [ByteArray.size_append, ByteArray.size_extract]
            have : (⟨#[10]⟩ : ByteArray).size = 1 := rfl
            omega
          have HSCN := Lib.hid (fun w => rscan_gap (s.extract a t.frm ++ ⟨#[10]⟩) w (by omega) (by omega) (by rw [HPB.out, hpl]; exact HPC.out.2) (by rw [HPB.out, hpl]; exact HPC.out.1))
          clear hpl hps HPB HPC
          by_cases hk : t.tk.kind = 0
          · have z0' : wz.cell? ⟨k, 0, none⟩ = some (.int .i64 0) := by rw [z0, hk]; rfl
            clear z0 q4 hk
            go_wp2_with fail
            refine (HSCN.out _).mono ?_
            rintro e w5 ⟨⟨ga, gc, rfl⟩, hb5⟩
            have z5' : w5.cell? ⟨k, 5, none⟩ = some (.int .i64 t.till) := by rw [hb5.cell (p := ⟨k, 5, none⟩) HKY.out]; exact z5
            have HB5 := Lib.hid (HBY.out.trans (hb5.mono HBY.out.size))
            clear hb5 z4 z5
            go_wp2_with fail
            go_roundw
            case rel => exact ⟨j + 1, by simp, by omega, by rw [HE.out], HB5.out⟩
            case measure => simp [intOf]; omega
          · have h1 := q4 hk
            have hkb : ((t.tk.kind : Int) == 0) = false := by simp [hk]
            have hkn : ((t.tk.kind : Int) != 0) = true := by simp [hk]
            have hkc : ((t.till : Int) == (t.frm : Int)) = false := by simp; omega
            clear q4 h1
            go_wp2_with fail
            refine (HSCN.out _).mono ?_
            rintro e w5 ⟨⟨ga, gc, rfl⟩, hb5⟩
            have z5' : w5.cell? ⟨k, 5, none⟩ = some (.int .i64 t.till) := by rw [hb5.cell (p := ⟨k, 5, none⟩) HKY.out]; exact z5
            have HB5 := Lib.hid (HBY.out.trans (hb5.mono HBY.out.size))
            clear hb5 z4 z5
            go_wp2_with fail
            go_roundw
            case rel => exact ⟨j + 1, by simp, by omega, by rw [HE.out], HB5.out⟩
            case measure => simp [intOf]; omega
        · go_wp2
          exact bodyPost_ret (v := .bool true) (by simp [results, Tryz.results4]) rfl ⟨rfl, HB2.out.trans (HB.out.mono HB2.out.size)⟩
    · have hcz : ((c : Int) == 0) = false := by simpa using hc0
      go_wp2_with fail
      exact bodyPost_ret (v := .bool true) (by simp [results, Tryz.results4]) rfl ⟨rfl, HB1.out.trans (hb2.mono HB1.out.size)⟩
end Go.Proofs.YtcgibcjpkhefpaaGreatDoor

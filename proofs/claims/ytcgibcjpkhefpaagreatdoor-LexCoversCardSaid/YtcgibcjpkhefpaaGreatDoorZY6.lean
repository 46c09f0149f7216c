/-
  The reference's Scan (12) at a gap: no error and one token.
-/
import Derived.Test.YtcgibcjpkhefpaaGreatDoorZK
import Derived.Test.YtcgibcjpkhefpaaGreatDoorZM
import Derived.Test.YtcgibcjpkhefpaaGreatDoorZU3
import Derived.Test.YtcgibcjpkhefpaaGreatDoorZY3
import Derived.Test.YtcgibcjpkhefpaaGreatDoorZY5
import Derived.Deep.RegionLaw
import Derived.BigRegion
namespace Go.Proofs.YtcgibcjpkhefpaaGreatDoor
open Go.RowKit
/-- The scanner, a token under way, what stood before. -/
structure TS (b : Nat) (s : ByteArray) (ln : Bool) (w0 : World) (k : Nat) (c : Array Value) (w : World) : Prop where
  rs : RS b s s.size ln w
  blk : w.heap[k]? = some (.cells c 31 (0, 0))
  bl : Below w0.heap.size w0 w
  nk : w0.heap.size ≤ k
  nb : w0.heap.size ≤ b
  ne : b ≠ k
theorem TS.set {b : Nat} {s : ByteArray} {ln : Bool} {w0 w : World} {k : Nat} {c : Array Value} (h : TS b s ln w0 k c w) (i : Nat) (u : Value) : TS b s ln w0 k (c.setIfInBounds i u) (w.setCell ⟨k, i, none⟩ u) :=
  ⟨⟨by rw [Below.heap_setCell _ _ _ _ (by have := h.ne; simp only; omega)]; exact h.rs.blk⟩, heap_setSelf h.blk i u, h.bl.setCell (p := ⟨k, i, none⟩) h.nk u, h.nk, h.nb, h.ne⟩
theorem TS.drew {b : Nat} {s : ByteArray} {ln : Bool} {w0 w : World} {k : Nat} {c : Array Value} (h : TS b s ln w0 k c w) : TS b s ln w0 k c w.drew :=
  ⟨⟨h.rs.blk⟩, h.blk, h.bl.trans ((drew_below w 1).mono h.bl.size), h.nk, h.nb, h.ne⟩
theorem cells_dr (w : World) (c : Array Value) (e : TypeId) (q : Nat) : ((w.alloc (.cells c e)).drew).cell? ((⟨w.heap.size, 0, none⟩ : Addr).add q) = c[q]? := by
  rw [show (⟨w.heap.size, 0, none⟩ : Addr).add q = ⟨w.heap.size, q, none⟩ from by unfold Addr.add; split <;> simp_all]
  exact cellU (w := (w.alloc (.cells c e)).drew) (heap_alloc_new w _) q
theorem size_dr (w : World) (o : Obj) : w.heap.size ≤ ((w.alloc o).drew).heap.size := by
  show w.heap.size ≤ (w.alloc o).heap.size
  simp
theorem grown_dr {w w' : World} {o : Obj} {r : Option Nat} (h : ((w.alloc o).drew).grownBy w' r) (hr : r = none) {b : Nat} (hb : b < w.heap.size) : w'.heap[b]? = w.heap[b]? := by
  rw [h.block b (Nat.lt_of_lt_of_le hb (size_dr w o)) (by rw [hr]; simp)]
  exact Below.heap_alloc _ _ _ hb
theorem below_dr2 {B : Nat} {w0 w w' : World} {o : Obj} {r : Option Nat} (hb : Below B w0 w) (hB : B ≤ w.heap.size) (h : ((w.alloc o).drew).grownBy w' r) (hr : r = none) : Below B w0 w' :=
  hb.trans ⟨h.os, h.tape, h.output, Nat.le_trans (size_dr w o) h.size, fun k hk => grown_dr h hr (by omega)⟩
set_option maxHeartbeats 8000000 in
set_option maxRecDepth 100000 in
theorem rscan_gap (s : ByteArray) (w : World) (hs0 : 0 < s.size) (hs : s.size ≤ 16384) (hC : Lx.Chain s.data.toList 0 s.data.toList.length) (hg : Lx.Gap s.data.toList 0 s.data.toList.length) :
    Calls Tryz.prog 12 #[.string s] w fun e w' => (∃ a cap, e = .returned (.tuple #[.slice a 1 cap, .int .i64 0, .int .i64 0])) ∧ Below w.heap.size w w' := by
  have HC := Lib.hid hC
  have HG := Lib.hid hg
  clear hC hg
  obtain ⟨fs, hd⟩ : ∃ fs, Tryz.prog.underlying 31 = some (.struct fs) := by
    have := under31
    cases h : Tryz.prog.underlying 31 with
    | none => rw [h] at this; cases this
    | some d => rw [h] at this; cases d <;> first | exact ⟨_, rfl⟩ | cases this
  have hb : decide ((262144 : Int) < s.size) = false := by simp; omega
  obtain ⟨i0, hi, hz0, hz1, hz2⟩ := info_parts info31
  have HI := Lib.hid (And.intro hi (And.intro hz0 (And.intro hz1 hz2)))
  clear hi hz0 hz1 hz2
  go_enter Tryz.func12, Tryz.ntmps12
  go_wp2_with fail
  refine (rof_any s _ hs0 hs HC.out).mono ?_
  rintro e w1 ⟨⟨X, rfl⟩, hb1⟩
  go_wp2_with fail
  have hS0 : RS w1.heap.size s 0 false (w1.alloc (.cells #[.string s, .int .i64 0, .bool false, .slice none 0 0, .slice none 0 0, .bool false, .int .i64 0] 50)) := ⟨heap_alloc_new _ _⟩
  have hB0 : Below w.heap.size w (w1.alloc (.cells #[.string s, .int .i64 0, .bool false, .slice none 0 0, .slice none 0 0, .bool false, .int .i64 0] 50)) := hb1.alloc hb1.size _
  have hb2 := hb1.size
  clear hb1
  generalize w1.alloc (.cells #[.string s, .int .i64 0, .bool false, .slice none 0 0, .slice none 0 0, .bool false, .int .i64 0] 50) = W0 at *
  generalize w1.heap.size = b at *
  have HS0 := Lib.hid hS0
  have HB0 := Lib.hid hB0
  clear hS0 hB0
  go_loopw [] (fun wr => wr = W0) (fun _ => 0)
  case atStart => rfl
  case round =>
    subst hrel
    have c2 := HS0.out.c2
    have f2 := HS0.out.fz 2
    go_wp2_with fail
    refine (rskip_gap (p := 0) (by omega) (by omega) HG.out (HS0.out.setLn false)).mono ?_
    rintro e w2 ⟨rfl, hK, ln, hS⟩
    have HS := Lib.hid hS
    have HB := Lib.hid (HB0.out.trans ((((Kf.refl (So b) _).setB 2 (.bool false)).trans hK).below HB0.out.size (fun k o e => by have e : k = b := e; omega)))
    clear hK hS c2 f2
    have c1 := HS.out.c1
    have c2 := HS.out.c2
    have c4 := HS.out.c4
    have c5 := HS.out.c5
    go_wp2_with fail
    go_quiet (fail)
    generalize hW3 : World.drewN _ _ = W3
    have HS3 := Lib.hid (show RS b s s.size ln W3 by rw [← hW3]; exact HS.out.drewN _)
    have HB3 := Lib.hid (show Below w.heap.size w W3 by rw [← hW3]; exact HB.out.trans ((drew_below _ _).mono HB.out.size))
    clear hW3 c1 c2 c4 c5
    have hs9 : decide ((s.size : Int) < s.size) = false := by simp
    have c1 := HS3.out.c1
    have c4 := HS3.out.c4
    have c5 := HS3.out.c5
    have hlt3 := lt_of_heap HS3.out.blk
    go_upto_region 13 with (refine wpList_store_row rfl 31 (.tmp 11) (.tmp 53) rfl W3.heap.size #[.int .i64 0, .string ⟨#[]⟩, .string ⟨#[]⟩, .float .f64 0, .int .i64 0, .int .i64 0, .bool false] rfl rfl 31 tok0 (heap_alloc_new W3 _) size31 rfl (tok_one _ _ _ _ _ _ _) ?_)
    have T0 : TS b s ln w W3.heap.size #[.int .i64 0, .string ⟨#[]⟩, .string ⟨#[]⟩, .float .f64 0, .int .i64 0, .int .i64 0, .bool false] ((W3.alloc (.cells tok0 31)).setRow W3.heap.size #[.int .i64 0, .string ⟨#[]⟩, .string ⟨#[]⟩, .float .f64 0, .int .i64 0, .int .i64 0, .bool false]) :=
      ⟨⟨by rw [setRow_other _ _ _ _ (by omega), Below.heap_alloc _ _ _ hlt3]; exact HS3.out.blk⟩, setRow_heap _ _ _ _ _ _ (heap_alloc_new W3 _), by
        have h1 := HB3.out.alloc HB3.out.size (.cells tok0 31)
        exact ((Kf.of_below (fun _ _ => False) h1).setRowNew HB3.out.size _).below (Nat.le_refl _) (fun _ _ h => h.elim), HB3.out.size, hb2, by omega⟩
    generalize hwz : World.setRow _ _ _ = wz
    have TT := Lib.hid (show TS b s ln w W3.heap.size #[.int .i64 0, .string ⟨#[]⟩, .string ⟨#[]⟩, .float .f64 0, .int .i64 0, .int .i64 0, .bool false] wz by rw [← hwz]; exact T0)
    clear T0 hwz c1 c4 c5
    generalize W3.heap.size = k at *
    have hbk : b ≠ k := TT.out.ne
    have hkb : k ≠ b := hbk.symm
    have c1 := TT.out.rs.c1
    have c5 := TT.out.rs.c5
    have t4 : wz.cell? ⟨k, 4, none⟩ = some (.int .i64 0) := by rw [cellN TT.out.blk 4]; rfl
    have t5 : wz.cell? ⟨k, 5, none⟩ = some (.int .i64 0) := by rw [cellN TT.out.blk 5]; rfl
    have t6 : wz.cell? ⟨k, 6, none⟩ = some (.bool false) := by rw [cellN TT.out.blk 6]; rfl
    have tf4 : wz.frozen? ⟨k, 4, none⟩ = false := by simp [World.frozen?, TT.out.blk]
    have tf5 : wz.frozen? ⟨k, 5, none⟩ = false := by simp [World.frozen?, TT.out.blk]
    have tf6 : wz.frozen? ⟨k, 6, none⟩ = false := by simp [World.frozen?, TT.out.blk]
    go_upto_region 18 with fail
    go_cut [] (fun wc => TS b s ln w k #[.int .i64 0, .string ⟨#[]⟩, .string ⟨#[]⟩, .float .f64 0, .int .i64 s.size, .int .i64 s.size, .bool ln] wc)
    case first =>
      go_wp2
      go_region
      all_goals
        go_wp2
        go_meet
        case rel => first | exact (((TT.out.drew.set 4 (.int .i64 s.size)).set 5 (.int .i64 s.size)).set 6 (.bool ln)) | exact (((TT.out.drew.set 4 (.int .i64 s.size)).set 6 (.bool ln)).set 5 (.int .i64 s.size)) | exact (((TT.out.drew.set 5 (.int .i64 s.size)).set 4 (.int .i64 s.size)).set 6 (.bool ln)) | exact (((TT.out.drew.set 5 (.int .i64 s.size)).set 6 (.bool ln)).set 4 (.int .i64 s.size)) | exact (((TT.out.drew.set 6 (.bool ln)).set 4 (.int .i64 s.size)).set 5 (.int .i64 s.size)) | exact (((TT.out.drew.set 6 (.bool ln)).set 5 (.int .i64 s.size)).set 4 (.int .i64 s.size))
    case rest =>
      have TU := Lib.hid hcut
      clear hcut c1 c5 t4 t5 t6 tf4 tf5 tf6 TT
      have u0 : wc.drew.cell? ⟨k, 0, none⟩ = some (.int .i64 0) := by rw [cellN TU.out.drew.blk 0]; rfl
      have u1 : wc.drew.cell? ⟨k, 1, none⟩ = some (.string ⟨#[]⟩) := by rw [cellN TU.out.drew.blk 1]; rfl
      have u2 : wc.drew.cell? ⟨k, 2, none⟩ = some (.string ⟨#[]⟩) := by rw [cellN TU.out.drew.blk 2]; rfl
      have u3 : wc.drew.cell? ⟨k, 3, none⟩ = some (.float .f64 0) := by rw [cellN TU.out.drew.blk 3]; rfl
      have u4 : wc.drew.cell? ⟨k, 4, none⟩ = some (.int .i64 s.size) := by rw [cellN TU.out.drew.blk 4]; rfl
      have u5 : wc.drew.cell? ⟨k, 5, none⟩ = some (.int .i64 s.size) := by rw [cellN TU.out.drew.blk 5]; rfl
      have u6 : wc.drew.cell? ⟨k, 6, none⟩ = some (.bool ln) := by rw [cellN TU.out.drew.blk 6]; rfl
      have c4 := TU.out.drew.rs.c4
      have f4 := TU.out.drew.rs.fz 4
      have c4b : ((wc.alloc (.cells #[.int .i64 0, .string ⟨#[]⟩, .string ⟨#[]⟩, .float .f64 0, .int .i64 s.size, .int .i64 s.size, .bool ln] 31)).drew).cell? ⟨b, 4, none⟩ = some (.slice none 0 0) := by
        exact (World.cell?_of_block (w := wc) (w' := (wc.alloc _).drew) (a := ⟨b, 4, none⟩) (Below.heap_alloc _ _ _ (lt_of_heap TU.out.rs.blk))).trans c4
      have HSZ := Lib.hid (show wc.drew.heap.size = wc.heap.size from rfl)
      have HBW := Lib.hid TU.out.drew.bl
      have HLB := Lib.hid (lt_of_heap TU.out.rs.blk)
      go_upto_region 19 with fail
      go_cut [] (fun wd => ∃ a cap, wd.cell? ⟨b, 4, none⟩ = some (.slice a 1 cap) ∧ Below w.heap.size w wd)
      case first =>
        go_wp2
        go_region_law (refine wanted_step rfl (wp_append_own _ (.tmp 85) (.tmp 87) 24 rfl w.heap.size 31 i0 (.agg tok0) 7 72 Tryz.underlying24 HI.out.1 HI.out.2.1 HI.out.2.2.1 HI.out.2.2.2 rfl (by decide) (.slice none 0 0) 0 [] (by simp [Act.eval]) ⟨by simp, Or.inl ⟨rfl, rfl⟩⟩ ⟨wc.heap.size, 0, none⟩ 1 1 [.int .i64 0, .string ⟨#[]⟩, .string ⟨#[]⟩, .float .f64 0, .int .i64 s.size, .int .i64 s.size, .bool ln] (by simp [Act.eval]) rfl (fun q x hq => (cells_dr wc _ 31 q).trans (by rw [← hq]; simp)) (fun x hx => by simp at hx; rcases hx with rfl | rfl | rfl | rfl | rfl | rfl | rfl <;> rfl) (by unfold maxLen; omega) (by omega) (Nat.le_trans TU.out.bl.size (size_dr wc _)) (fun v' w' hown' hgrow _ => ?_)); obtain ⟨a', cap', hv'⟩ := own_form hown'; subst hv'; have hblk' := grown_dr hgrow rfl HLB.out; have c4' := (World.cell?_of_block (a := ⟨b, 4, none⟩) hblk').trans c4; have f4' := (World.frozen?_of_block (a := ⟨b, 4, none⟩) hblk').trans f4; have HBX := Lib.hid (below_dr2 TU.out.bl TU.out.bl.size hgrow rfl); clear hblk' hgrow hown')
        all_goals
          go_wp2
          go_meet
          case rel => exact ⟨_, _, World.cell?_setCell_same _ _ _ c4', HBX.out.setCell (p := ⟨b, 4, none⟩) TU.out.nb _⟩
      case rest =>
        obtain ⟨a, cap, hc4, hbl⟩ := hcut
        have hs8 : (s.size : Int) ≤ s.size := by omega
        go_wp2
        exact bodyPost_ret (v := .tuple #[.slice a 1 cap, .int .i64 0, .int .i64 0]) (by simp [results, Tryz.results12]) rfl ⟨⟨_, _, rfl⟩, hbl⟩
end Go.Proofs.YtcgibcjpkhefpaaGreatDoor

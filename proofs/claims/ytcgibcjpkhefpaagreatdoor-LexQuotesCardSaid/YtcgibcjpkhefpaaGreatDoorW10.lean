/-
  The walk of the scanner's sign, case by case.
-/
import Derived.Test.YtcgibcjpkhefpaaGreatDoorW9
namespace Go.Proofs.YtcgibcjpkhefpaaGreatDoor
open Go.RowKit
section
variable {b g : Nat} {s : ByteArray} {lv ov : Value} {p : Nat} {ln : Bool} {opn : List Int} {B x : Nat} {l : List UInt8}
theorem sgn_bound (l : List UInt8) (p : Nat) : -1 ≤ sgnIdx l p ∧ sgnIdx l p < 52 := by
  unfold sgnIdx
  split
  · rename_i i h
    obtain ⟨t, h1, _⟩ := find_of_idx h
    have := (List.getElem?_eq_some_iff.1 h1).1
    rw [signs_len] at this
    omega
  · omega
set_option maxHeartbeats 1000000 in
set_option maxRecDepth 100000 in
theorem sign_bad (w : World) (hs : s.size ≤ 262144) (hp : p < s.size) (h : Scn b s lv p ln ov opn w) (hL : Lst b g lv w) (hx : Lx.signs.findIdx? (fun t => Lx.pre t s.data.toList p) = none) :
    Calls Tryz.prog 82 #[.pointer (some ⟨b, 0, none⟩)] w (TokPost b s lv ln w (.error p)) := by
  have h1 := h.c1
  have h4 := h.c4
  have hbl := h.lt
  have hgl : g < w.heap.size := by have := hL.lt; omega
  have HI := Lib.hid (show sgnIdx s.data.toList p = -1 by unfold sgnIdx; rw [hx])
  have HS := Lib.hid h
  have HL := Lib.hid hL
  have HLA := Lib.hid (hL.kf (Kf.of_below (fun _ _ => False) ((Below.refl w.heap.size w).alloc (Nat.le_refl _) (.cells tok0 31))) (fun _ => id))
  clear h hL hx
  go_enter Tryz.func82, Tryz.ntmps82
  go_wp2_with fail
  refine (indexFunc_any _ (by omega) (by omega) (HS.out.alloc _) HLA.out).mono ?_
  rintro e w1 ⟨rfl, n1, rfl⟩
  rw [HI.out]
  go_wp2
  exact ⟨rfl, ((Kf.refl _ _).alloc _).drewN _, rfl⟩
theorem li_ne {t u : List UInt8} (h : t ≠ u) : (t == u) = false := by rw [beq_eq_false_iff_ne]; exact h
/-- A brace more or less within the template under way. -/
theorem Scn.bump {init : List Int} {m m' : Int} {r cap : Nat} {w : World} (h : Scn b s lv p ln (.slice (some ⟨r, 0, none⟩) (init.length + 1) cap) (init ++ [m]) w) : Scn b s lv p ln (.slice (some ⟨r, 0, none⟩) (init.length + 1) cap) (init ++ [m']) (w.setCell ⟨r, init.length, none⟩ (.int .i64 m')) := by
  have how : w.ownsRow (b + 1) 3 1 (.slice (some ⟨r, 0, none⟩) (init.length + 1) cap) (init.length + 1) (init.map (Value.int .i64) ++ [.int .i64 m]) := by
    have := h.own
    simpa using this
  have hrb := how.lt r rfl
  refine ⟨?_, ?_⟩
  · rw [Below.heap_setCell _ _ _ _ (by simp only; omega)]; exact h.blk
  · have := (how.stored init.length (.int .i64 m')).1
    rw [List.set_append_right _ _ (by simp)] at this
    simpa using this
/-- The template under way is left. -/
theorem Scn.popped {init : List Int} {m : Int} {r cap : Nat} {w : World} (h : Scn b s lv p ln (.slice (some ⟨r, 0, none⟩) (init.length + 1) cap) (init ++ [m]) w) : Scn b s lv p ln (.slice (some ⟨r, 0, none⟩) init.length cap) init (w.setCell ⟨b, 3, none⟩ (.slice (some ⟨r, 0, none⟩) init.length cap)) := by
  have how : w.ownsRow (b + 1) 3 1 (.slice (some ⟨r, 0, none⟩) (init.length + 1) cap) (init.length + 1) (init.map (Value.int .i64) ++ [.int .i64 m]) := by
    have := h.own
    simpa using this
  have := ownsRow_pop (xs := init.map (Value.int .i64)) (last := [.int .i64 m]) (size := 1) (n := init.length) (by simp) how
  exact Scn.setOpen h.blk this
theorem Kf.setI {_S : Nat → Obj → Prop} {w0 w : World} {v : Value} {n : Nat} {xs : List Value} {r : Nat} (hk : Kf (Sp b) w0 w) (how : w.ownsRow (b + 1) 3 1 v n xs) (hr : v.ownBlock = some r) (i : Nat) (u : Value) : Kf (Sp b) w0 (w.setCell ⟨r, i, none⟩ u) := by
  refine Kf.set (a := ⟨r, i, none⟩) hk (fun o ho => ?_) u
  rcases how.2 with ⟨hv, _⟩ | ⟨g, cap, cur, hv, hg, hh, _⟩
  · rw [hv] at hr; cases hr
  · rw [hv] at hr
    have e1 : g = r := Option.some.inj hr
    subst e1
    rw [hh] at ho
    injection ho with ho
    exact ⟨by simp only; omega, by rw [← ho]; simp [Calm]⟩

set_option maxHeartbeats 2000000 in
set_option maxRecDepth 100000 in
theorem sign_none {k : Nat} {t : List UInt8} (w : World) (hs : s.size ≤ 262144) (hp : p < s.size) (h : Scn b s lv p ln ov [] w) (hL : Lst b g lv w) (hx : Lx.signs.findIdx? (fun t => Lx.pre t s.data.toList p) = some k) (ht : Lx.signs[k]? = some t) (hpt : Lx.pre t s.data.toList p = true) :
    Calls Tryz.prog 82 #[.pointer (some ⟨b, 0, none⟩)] w (TokPost b s lv ln w (.ok (⟨3, t, [], 0⟩, p + t.length, []))) := by
  have h1 := h.c1
  have h3 := h.c3
  have h4 := h.c4
  have f1 := h.fz 1
  have f3 := h.fz 3
  have hbl := h.lt
  have hgl : g < w.heap.size := by have := hL.lt; omega
  have hk52 : k < 52 := by have := (List.getElem?_eq_some_iff.1 ht).1; rw [signs_len] at this; exact this
  have hle := pre_le hpt (by simp; omega)
  rw [show s.data.toList.length = s.size by simp] at hle
  have hlt : t.toArray.size = t.length := by simp
  have hc := hL.cell ht
  have hov : ∃ ao cap, ov = .slice ao 0 cap := by
    rcases h.own.2 with ⟨hv, _⟩ | ⟨g, cap, cur, hv, _⟩
    · exact ⟨_, _, hv⟩
    · exact ⟨_, _, hv⟩
  obtain ⟨ao, cap, rfl⟩ := hov
  have HI := Lib.hid (show sgnIdx s.data.toList p = k by unfold sgnIdx; rw [hx])
  have HS := Lib.hid h
  have hlv := hL.val
  rw [signs_len] at hlv
  subst hlv
  have HL := Lib.hid hL
  have HLA := Lib.hid (hL.kf (Kf.of_below (fun _ _ => False) ((Below.refl w.heap.size w).alloc (Nat.le_refl _) (.cells tok0 31))) (fun _ => id))
  clear h hL hx ht
  go_enter Tryz.func82, Tryz.ntmps82
  go_wp2_with fail
  refine (indexFunc_any _ (by omega) (by omega) (HS.out.alloc _) HLA.out).mono ?_
  rintro e w1 ⟨rfl, n1, rfl⟩
  rw [HI.out]
  have HR := Lib.hid (show (((w.alloc (.cells tok0 31)).drewN n1).setCell ⟨b, 1, none⟩ (.int .i64 ((p : Int) + t.length))).heap[w.heap.size]? = some (.cells tok0 31 (0, 0)) by
    rw [Below.heap_setCell _ _ _ _ (by simp only; omega)]; exact heap_alloc_new _ _)
  go_wp2_with (refine wpList_store_row rfl 31 (.tmp 2) (.tmp 94) rfl w.heap.size #[.int .i64 3, .string ⟨t.toArray⟩, .string ⟨#[]⟩, .float .f64 0, .int .i64 0, .int .i64 0, .bool false] rfl rfl 31 tok0 HR.out size31 rfl (tok_one _ _ _ _ _ _ _) ?_)
  go_wp2
  refine bodyPost_ret (v := tokV ⟨3, t, [], 0⟩ 0 0 false) (results_row rfl rfl (setRow_heap _ _ _ _ _ _ HR.out) rfl) rfl ?_
  exact ⟨(HS.out.so_sp ((((Kf.refl _ _).alloc _).drewN _).setB 1 _)).setRowNew (Nat.le_refl _) _, _, rfl, Scn.setRow (((HS.out.alloc _).drewN _).setTo (by omega)) HR.out _⟩
set_option maxHeartbeats 2000000 in
set_option maxRecDepth 100000 in
theorem sign_other {k : Nat} {t : List UInt8} (w : World) (hs : s.size ≤ 262144) (hp : p < s.size) {init : List Int} {m : Int} (_hm0 : 0 ≤ m) (_hm1 : m ≤ 262144) (hil : init.length ≤ 262144) (h : Scn b s lv p ln ov (init ++ [m]) w) (hL : Lst b g lv w) (hx : Lx.signs.findIdx? (fun t => Lx.pre t s.data.toList p) = some k) (ht : Lx.signs[k]? = some t) (hpt : Lx.pre t s.data.toList p = true) (hb : t ≠ [123]) (hcl : t ≠ [125]) :
    Calls Tryz.prog 82 #[.pointer (some ⟨b, 0, none⟩)] w (TokPost b s lv ln w (.ok (⟨3, t, [], 0⟩, p + t.length, init ++ [m]))) := by
  have h1 := h.c1
  have h3 := h.c3
  have h4 := h.c4
  have f1 := h.fz 1
  have f3 := h.fz 3
  have hbl := h.lt
  have hgl : g < w.heap.size := by have := hL.lt; omega
  have hk52 : k < 52 := by have := (List.getElem?_eq_some_iff.1 ht).1; rw [signs_len] at this; exact this
  have hle := pre_le hpt (by simp; omega)
  rw [show s.data.toList.length = s.size by simp] at hle
  have hlt : t.toArray.size = t.length := by simp
  have hc := hL.cell ht
  obtain ⟨r, cap, rfl⟩ : ∃ r cap, ov = .slice (some ⟨r, 0, none⟩) (init.length + 1) cap := by
    rcases h.own.2 with ⟨_, h0⟩ | ⟨g, cap, cur, hv, _⟩
    · simp at h0
    · exact ⟨g, cap, by rw [hv]; simp⟩
  have how : w.ownsRow (b + 1) 3 1 (.slice (some ⟨r, 0, none⟩) (init.length + 1) cap) (init.length + 1) (init.map (Value.int .i64) ++ [.int .i64 m]) := by
    have := h.own
    simpa using this
  have hrb := how.lt r rfl
  have hm := how.cellAt init.length (by omega)
  rw [List.getElem?_append_right (by simp)] at hm
  simp at hm
  have hf := how.frozenAt init.length
  have hcap : init.length ≤ cap ∧ (init.length : Int) ≤ (cap : Int) := by
    rcases how.2 with ⟨hv, _⟩ | ⟨g, cap', cur, hv, _, _, h1, _⟩
    · cases hv
    · injection hv with _ _ hv; omega
  have hcap1 := hcap.1
  have hcap2 := hcap.2
  have HOW := Lib.hid how
  clear how
  have tb := li_ne hb
  have tc := li_ne hcl
  clear hb hcl
  have HI := Lib.hid (show sgnIdx s.data.toList p = k by unfold sgnIdx; rw [hx])
  have HS := Lib.hid h
  have hlv := hL.val
  rw [signs_len] at hlv
  subst hlv
  have HL := Lib.hid hL
  have HLA := Lib.hid (hL.kf (Kf.of_below (fun _ _ => False) ((Below.refl w.heap.size w).alloc (Nat.le_refl _) (.cells tok0 31))) (fun _ => id))
  clear h hL hx ht
  go_enter Tryz.func82, Tryz.ntmps82
  go_wp2_with fail
  refine (indexFunc_any _ (by omega) (by omega) (HS.out.alloc _) HLA.out).mono ?_
  rintro e w1 ⟨rfl, n1, rfl⟩
  rw [HI.out]
  have HR := Lib.hid (show (((w.alloc (.cells tok0 31)).drewN n1).setCell ⟨b, 1, none⟩ (.int .i64 ((p : Int) + t.length))).heap[w.heap.size]? = some (.cells tok0 31 (0, 0)) by
    rw [Below.heap_setCell _ _ _ _ (by simp only; omega)]; exact heap_alloc_new _ _)
  go_wp2_with (refine wpList_store_row rfl 31 (.tmp 2) (.tmp 94) rfl w.heap.size #[.int .i64 3, .string ⟨t.toArray⟩, .string ⟨#[]⟩, .float .f64 0, .int .i64 0, .int .i64 0, .bool false] rfl rfl 31 tok0 HR.out size31 rfl (tok_one _ _ _ _ _ _ _) ?_)
  go_wp2
  refine bodyPost_ret (v := tokV ⟨3, t, [], 0⟩ 0 0 false) (results_row rfl rfl (setRow_heap _ _ _ _ _ _ HR.out) rfl) rfl ?_
  exact ⟨(HS.out.so_sp ((((Kf.refl _ _).alloc _).drewN _).setB 1 _)).setRowNew (Nat.le_refl _) _, _, rfl, Scn.setRow (((HS.out.alloc _).drewN _).setTo (by omega)) HR.out _⟩
set_option maxHeartbeats 2000000 in
set_option maxRecDepth 100000 in
theorem sign_open {k : Nat} {t : List UInt8} (w : World) (hs : s.size ≤ 262144) (hp : p < s.size) {init : List Int} {m : Int} (hm0 : 0 ≤ m) (hm1 : m ≤ 262144) (hil : init.length ≤ 262144) (h : Scn b s lv p ln ov (init ++ [m]) w) (hL : Lst b g lv w) (hx : Lx.signs.findIdx? (fun t => Lx.pre t s.data.toList p) = some k) (ht : Lx.signs[k]? = some t) (hpt : Lx.pre t s.data.toList p = true) (hb : t = [123]) :
    Calls Tryz.prog 82 #[.pointer (some ⟨b, 0, none⟩)] w (TokPost b s lv ln w (.ok (⟨3, t, [], 0⟩, p + t.length, init ++ [m + 1]))) := by
  have h1 := h.c1
  have h3 := h.c3
  have h4 := h.c4
  have f1 := h.fz 1
  have f3 := h.fz 3
  have hbl := h.lt
  have hgl : g < w.heap.size := by have := hL.lt; omega
  have hk52 : k < 52 := by have := (List.getElem?_eq_some_iff.1 ht).1; rw [signs_len] at this; exact this
  have hle := pre_le hpt (by simp; omega)
  rw [show s.data.toList.length = s.size by simp] at hle
  have hlt : t.toArray.size = t.length := by simp
  have hc := hL.cell ht
  obtain ⟨r, cap, rfl⟩ : ∃ r cap, ov = .slice (some ⟨r, 0, none⟩) (init.length + 1) cap := by
    rcases h.own.2 with ⟨_, h0⟩ | ⟨g, cap, cur, hv, _⟩
    · simp at h0
    · exact ⟨g, cap, by rw [hv]; simp⟩
  have how : w.ownsRow (b + 1) 3 1 (.slice (some ⟨r, 0, none⟩) (init.length + 1) cap) (init.length + 1) (init.map (Value.int .i64) ++ [.int .i64 m]) := by
    have := h.own
    simpa using this
  have hrb := how.lt r rfl
  have hm := how.cellAt init.length (by omega)
  rw [List.getElem?_append_right (by simp)] at hm
  simp at hm
  have hf := how.frozenAt init.length
  have hcap : init.length ≤ cap ∧ (init.length : Int) ≤ (cap : Int) := by
    rcases how.2 with ⟨hv, _⟩ | ⟨g, cap', cur, hv, _, _, h1, _⟩
    · cases hv
    · injection hv with _ _ hv; omega
  have hcap1 := hcap.1
  have hcap2 := hcap.2
  have HOW := Lib.hid how
  clear how
  subst hb
  have HI := Lib.hid (show sgnIdx s.data.toList p = k by unfold sgnIdx; rw [hx])
  have HS := Lib.hid h
  have hlv := hL.val
  rw [signs_len] at hlv
  subst hlv
  have HL := Lib.hid hL
  have HLA := Lib.hid (hL.kf (Kf.of_below (fun _ _ => False) ((Below.refl w.heap.size w).alloc (Nat.le_refl _) (.cells tok0 31))) (fun _ => id))
  clear h hL hx ht
  go_enter Tryz.func82, Tryz.ntmps82
  go_wp2_with fail
  refine (indexFunc_any _ (by omega) (by omega) (HS.out.alloc _) HLA.out).mono ?_
  rintro e w1 ⟨rfl, n1, rfl⟩
  rw [HI.out]
  have HR := Lib.hid (show ((((w.alloc (.cells tok0 31)).drewN n1).setCell ⟨r, init.length, none⟩ (.int .i64 (m + 1))).setCell ⟨b, 1, none⟩ (.int .i64 ((p : Int) + 1))).heap[w.heap.size]? = some (.cells tok0 31 (0, 0)) by
    rw [Below.heap_setCell _ _ _ _ (by simp only; omega), Below.heap_setCell _ _ _ _ (by simp only; omega)]; exact heap_alloc_new _ _)
  go_wp2_with (refine wpList_store_row rfl 31 (.tmp 2) (.tmp 94) rfl w.heap.size #[.int .i64 3, .string ⟨[123].toArray⟩, .string ⟨#[]⟩, .float .f64 0, .int .i64 0, .int .i64 0, .bool false] rfl rfl 31 tok0 HR.out size31 rfl (tok_one _ _ _ _ _ _ _) ?_)
  go_wp2
  refine bodyPost_ret (v := tokV ⟨3, [123], [], 0⟩ 0 0 false) (results_row rfl rfl (setRow_heap _ _ _ _ _ _ HR.out) rfl) rfl ?_
  have HS2 := Scn.bump (m' := m + 1) ((HS.out.alloc (.cells tok0 31)).drewN n1)
  exact ⟨(HS2.so_sp (Kf.refl _ _) |> fun _ => Kf.set (S := Sp b) (a := ⟨b, 1, none⟩) (Kf.setI (_S := Sp b) (((Kf.refl _ w).alloc (.cells tok0 31)).drewN n1) ((HOW.out.alloc (.cells tok0 31))) rfl init.length (.int .i64 (m + 1))) (fun o ho => ⟨Nat.le_refl _, by have e := HS2.blk; rw [e] at ho; injection ho with ho; rw [← ho]; simp [Calm]⟩) _).setRowNew (Nat.le_refl _) _, _, rfl, Scn.setRow (HS2.setTo (by simp)) HR.out _⟩
set_option maxHeartbeats 2000000 in
set_option maxRecDepth 100000 in
theorem sign_close {k : Nat} {t : List UInt8} (w : World) (hs : s.size ≤ 262144) (hp : p < s.size) {init : List Int} {m : Int} (hm0 : 0 ≤ m) (hm1 : m ≤ 262144) (hil : init.length ≤ 262144) (h : Scn b s lv p ln ov (init ++ [m]) w) (hL : Lst b g lv w) (hx : Lx.signs.findIdx? (fun t => Lx.pre t s.data.toList p) = some k) (ht : Lx.signs[k]? = some t) (hpt : Lx.pre t s.data.toList p = true) (hb : t = [125]) (hz : m ≠ 0) :
    Calls Tryz.prog 82 #[.pointer (some ⟨b, 0, none⟩)] w (TokPost b s lv ln w (.ok (⟨3, t, [], 0⟩, p + t.length, init ++ [m - 1]))) := by
  have h1 := h.c1
  have h3 := h.c3
  have h4 := h.c4
  have f1 := h.fz 1
  have f3 := h.fz 3
  have hbl := h.lt
  have hgl : g < w.heap.size := by have := hL.lt; omega
  have hk52 : k < 52 := by have := (List.getElem?_eq_some_iff.1 ht).1; rw [signs_len] at this; exact this
  have hle := pre_le hpt (by simp; omega)
  rw [show s.data.toList.length = s.size by simp] at hle
  have hlt : t.toArray.size = t.length := by simp
  have hc := hL.cell ht
  obtain ⟨r, cap, rfl⟩ : ∃ r cap, ov = .slice (some ⟨r, 0, none⟩) (init.length + 1) cap := by
    rcases h.own.2 with ⟨_, h0⟩ | ⟨g, cap, cur, hv, _⟩
    · simp at h0
    · exact ⟨g, cap, by rw [hv]; simp⟩
  have how : w.ownsRow (b + 1) 3 1 (.slice (some ⟨r, 0, none⟩) (init.length + 1) cap) (init.length + 1) (init.map (Value.int .i64) ++ [.int .i64 m]) := by
    have := h.own
    simpa using this
  have hrb := how.lt r rfl
  have hm := how.cellAt init.length (by omega)
  rw [List.getElem?_append_right (by simp)] at hm
  simp at hm
  have hf := how.frozenAt init.length
  have hcap : init.length ≤ cap ∧ (init.length : Int) ≤ (cap : Int) := by
    rcases how.2 with ⟨hv, _⟩ | ⟨g, cap', cur, hv, _, _, h1, _⟩
    · cases hv
    · injection hv with _ _ hv; omega
  have hcap1 := hcap.1
  have hcap2 := hcap.2
  have HOW := Lib.hid how
  clear how
  subst hb
  have tz : (m == 0) = false := by simpa using hz
  clear hz
  have HI := Lib.hid (show sgnIdx s.data.toList p = k by unfold sgnIdx; rw [hx])
  have HS := Lib.hid h
  have hlv := hL.val
  rw [signs_len] at hlv
  subst hlv
  have HL := Lib.hid hL
  have HLA := Lib.hid (hL.kf (Kf.of_below (fun _ _ => False) ((Below.refl w.heap.size w).alloc (Nat.le_refl _) (.cells tok0 31))) (fun _ => id))
  clear h hL hx ht
  go_enter Tryz.func82, Tryz.ntmps82
  go_wp2_with fail
  refine (indexFunc_any _ (by omega) (by omega) (HS.out.alloc _) HLA.out).mono ?_
  rintro e w1 ⟨rfl, n1, rfl⟩
  rw [HI.out]
  have HR := Lib.hid (show ((((w.alloc (.cells tok0 31)).drewN n1).setCell ⟨r, init.length, none⟩ (.int .i64 (m - 1))).setCell ⟨b, 1, none⟩ (.int .i64 ((p : Int) + 1))).heap[w.heap.size]? = some (.cells tok0 31 (0, 0)) by
    rw [Below.heap_setCell _ _ _ _ (by simp only; omega), Below.heap_setCell _ _ _ _ (by simp only; omega)]; exact heap_alloc_new _ _)
  go_wp2_with (refine wpList_store_row rfl 31 (.tmp 2) (.tmp 94) rfl w.heap.size #[.int .i64 3, .string ⟨[125].toArray⟩, .string ⟨#[]⟩, .float .f64 0, .int .i64 0, .int .i64 0, .bool false] rfl rfl 31 tok0 HR.out size31 rfl (tok_one _ _ _ _ _ _ _) ?_)
  go_wp2
  refine bodyPost_ret (v := tokV ⟨3, [125], [], 0⟩ 0 0 false) (results_row rfl rfl (setRow_heap _ _ _ _ _ _ HR.out) rfl) rfl ?_
  have HS2 := Scn.bump (m' := m - 1) ((HS.out.alloc (.cells tok0 31)).drewN n1)
  exact ⟨(HS2.so_sp (Kf.refl _ _) |> fun _ => Kf.set (S := Sp b) (a := ⟨b, 1, none⟩) (Kf.setI (_S := Sp b) (((Kf.refl _ w).alloc (.cells tok0 31)).drewN n1) ((HOW.out.alloc (.cells tok0 31))) rfl init.length (.int .i64 (m - 1))) (fun o ho => ⟨Nat.le_refl _, by have e := HS2.blk; rw [e] at ho; injection ho with ho; rw [← ho]; simp [Calm]⟩) _).setRowNew (Nat.le_refl _) _, _, rfl, Scn.setRow (HS2.setTo (by simp)) HR.out _⟩
set_option maxHeartbeats 2000000 in
set_option maxRecDepth 100000 in
theorem sign_pop {k : Nat} {t : List UInt8} (w : World) (hs : s.size ≤ 262144) (hp : p < s.size) {init : List Int} (hil : init.length ≤ 262144) (h : Scn b s lv p ln ov (init ++ [0]) w) (hL : Lst b g lv w) (hx : Lx.signs.findIdx? (fun t => Lx.pre t s.data.toList p) = some k) (ht : Lx.signs[k]? = some t) (hpt : Lx.pre t s.data.toList p = true) (hb : t = [125]) :
    Calls Tryz.prog 82 #[.pointer (some ⟨b, 0, none⟩)] w (TokPost b s lv ln w (Lx.piece s.data.toList 9 8 p init)) := by
  have h1 := h.c1
  have h3 := h.c3
  have h4 := h.c4
  have f1 := h.fz 1
  have f3 := h.fz 3
  have hbl := h.lt
  have hgl : g < w.heap.size := by have := hL.lt; omega
  have hk52 : k < 52 := by have := (List.getElem?_eq_some_iff.1 ht).1; rw [signs_len] at this; exact this
  have hle := pre_le hpt (by simp; omega)
  rw [show s.data.toList.length = s.size by simp] at hle
  have hlt : t.toArray.size = t.length := by simp
  have hc := hL.cell ht
  obtain ⟨r, cap, rfl⟩ : ∃ r cap, ov = .slice (some ⟨r, 0, none⟩) (init.length + 1) cap := by
    rcases h.own.2 with ⟨_, h0⟩ | ⟨g, cap, cur, hv, _⟩
    · simp at h0
    · exact ⟨g, cap, by rw [hv]; simp⟩
  have how : w.ownsRow (b + 1) 3 1 (.slice (some ⟨r, 0, none⟩) (init.length + 1) cap) (init.length + 1) (init.map (Value.int .i64) ++ [.int .i64 0]) := by
    have := h.own
    simpa using this
  have hrb := how.lt r rfl
  have hm := how.cellAt init.length (by omega)
  rw [List.getElem?_append_right (by simp)] at hm
  simp at hm
  have hf := how.frozenAt init.length
  have hcap : init.length ≤ cap ∧ (init.length : Int) ≤ (cap : Int) := by
    rcases how.2 with ⟨hv, _⟩ | ⟨g, cap', cur, hv, _, _, h1, _⟩
    · cases hv
    · injection hv with _ _ hv; omega
  have hcap1 := hcap.1
  have hcap2 := hcap.2
  have HOW := Lib.hid how
  clear how
  subst hb
  have HI := Lib.hid (show sgnIdx s.data.toList p = k by unfold sgnIdx; rw [hx])
  have HS := Lib.hid h
  have hlv := hL.val
  rw [signs_len] at hlv
  subst hlv
  have HL := Lib.hid hL
  have HLA := Lib.hid (hL.kf (Kf.of_below (fun _ _ => False) ((Below.refl w.heap.size w).alloc (Nat.le_refl _) (.cells tok0 31))) (fun _ => id))
  clear h hL hx ht
  go_enter Tryz.func82, Tryz.ntmps82
  go_wp2_with fail
  refine (indexFunc_any _ (by omega) (by omega) (HS.out.alloc _) HLA.out).mono ?_
  rintro e w1 ⟨rfl, n1, rfl⟩
  rw [HI.out]
  have HS2 := Lib.hid (Scn.popped ((HS.out.alloc (.cells tok0 31)).drewN n1))
  have HK2 := Lib.hid (HS.out.so_sp ((((Kf.refl _ w).alloc (.cells tok0 31)).drewN n1).setB 3 (.slice (some ⟨r, 0, none⟩) init.length cap)))
  go_wp2_with fail
  refine (piece_any 9 8 _ hs hp hil (by decide) (by decide) HS2.out).mono ?_
  rintro e w2 ⟨hK3, hP⟩
  have HK3 := Lib.hid (HK2.out.trans hK3)
  have HR := Lib.hid (hK3.block w.heap.size (.cells tok0 31 (0, 0)) (by rw [Below.heap_setCell _ _ _ _ (by simp only; omega)]; exact heap_alloc_new _ _) (fun e => e.2 (by simp [Calm])))
  cases hE : Lx.piece s.data.toList 9 8 p init with
  | error a =>
    rw [hE] at hP
    have he : e = wrongAt a := hP
    clear hP hK3 hE
    subst he
    unfold wrongAt
    go_wp2
    exact ⟨rfl, HK3.out, rfl⟩
  | ok r2 =>
    obtain ⟨tk, q, opn'⟩ := r2
    rw [hE] at hP
    obtain ⟨ov', he, hS3⟩ := hP
    have HS3 := Lib.hid hS3
    have HE := Lib.hid hE
    clear hS3 hK3 hE
    subst he
    unfold tokV
    go_wp2_with (refine wpList_store_row rfl 31 (.tmp 2) (.tmp 71) rfl w.heap.size #[.int .i64 tk.kind, .string ⟨tk.text.toArray⟩, .string ⟨tk.str.toArray⟩, .float .f64 tk.num, .int .i64 (0 : Nat), .int .i64 (0 : Nat), .bool false] rfl rfl 31 tok0 HR.out size31 rfl (tok_one _ _ _ _ _ _ _) ?_)
    go_wp2
    refine bodyPost_ret (v := tokV tk 0 0 false) (results_row rfl rfl (setRow_heap _ _ _ _ _ _ HR.out) rfl) rfl ?_
    exact ⟨HK3.out.setRowNew (Nat.le_refl _) _, by rw [HE.out]; exact ⟨_, rfl, HS3.out.setRow HR.out _⟩⟩
/-- The open braces: no more than the place. -/
def OpnOk (opn : List Int) (p : Nat) : Prop := opn.length ≤ p ∧ ∀ m ∈ opn, 0 ≤ m ∧ m ≤ p
theorem sign_any (w : World) (hs : s.size ≤ 262144) (hp : p < s.size) (ho : OpnOk opn p) (h : Scn b s lv p ln ov opn w) (hL : Lst b g lv w) :
    Calls Tryz.prog 82 #[.pointer (some ⟨b, 0, none⟩)] w (TokPost b s lv ln w (Lx.sign s.data.toList p opn)) := by
  cases hx : Lx.signs.findIdx? (fun t => Lx.pre t s.data.toList p) with
  | none =>
    have hf : Lx.signs.find? (fun t => Lx.pre t s.data.toList p) = none := by
      rw [List.find?_eq_none]
      intro t ht
      have := List.findIdx?_eq_none_iff.1 hx t ht
      simp [this]
    simp only [Lx.sign, hf]
    exact sign_bad w hs hp h hL hx
  | some k =>
    obtain ⟨t, ht, hf, hpt⟩ := find_of_idx hx
    simp only [Lx.sign, hf]
    rcases List.eq_nil_or_concat opn with rfl | ⟨init, m, rfl⟩
    · exact sign_none w hs hp h hL hx ht hpt
    · simp only [List.concat_eq_append] at h ho ⊢
      have hm := ho.2 m (by simp)
      have hl : init.length ≤ 262144 := by have := ho.1; simp at this; omega
      rw [show (init ++ [m]).getLast? = some m by simp, show (init ++ [m]).dropLast = init by simp]
      simp only
      by_cases hb : t = [123]
      · rw [if_pos hb]
        exact sign_open w hs hp hm.1 (by omega) hl h hL hx ht hpt hb
      · rw [if_neg hb]
        by_cases hc : t = [125]
        · rw [if_pos hc]
          by_cases hz : m = 0
          · rw [if_pos hz]
            subst hz
            exact sign_pop w hs hp hl h hL hx ht hpt hc
          · rw [if_neg hz]
            exact sign_close w hs hp hm.1 (by omega) hl h hL hx ht hpt hc hz
        · rw [if_neg hc]
          exact sign_other w hs hp hm.1 (by omega) hl h hL hx ht hpt hb hc
end
end Go.Proofs.YtcgibcjpkhefpaaGreatDoor

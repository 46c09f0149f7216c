/-
  The walks of slices.IndexFunc over the signs and of the scanner's sign.
-/
import Derived.Test.YtcgibcjpkhefpaaGreatDoorW8
namespace Go.Proofs.YtcgibcjpkhefpaaGreatDoor
open Go.RowKit
def signCells : Array Value := (Lx.signs.map fun t => Value.string ⟨t.toArray⟩).toArray
/-- The list of signs, in a block below the scanner's. -/
structure Lst (b g : Nat) (lv : Value) (w : World) : Prop where
  val : lv = .slice (some ⟨g, 0, none⟩) Lx.signs.length Lx.signs.length
  lt : g < b
  blk : w.heap[g]? = some (.cells signCells 9 (0, 0))
def sgnIdx (l : List UInt8) (p : Nat) : Int := match Lx.signs.findIdx? (fun t => Lx.pre t l p) with | some i => i | none => -1
theorem signs_len : Lx.signs.length = 52 := rfl
theorem findIdx_hit {α : Type} {f : α → Bool} {ts : List α} {k : Nat} {t : α} (h : ∀ u ∈ ts.take k, f u = false) (ht : ts[k]? = some t) (hf : f t = true) : ts.findIdx? f = some k := by
  induction ts generalizing k with
  | nil => simp at ht
  | cons a ts ih =>
    cases k with
    | zero =>
      simp at ht; subst ht
      simp [List.findIdx?_cons, hf]
    | succ k =>
      have ha : f a = false := h a (by simp)
      have := ih (k := k) (fun u hu => h u (by simp [hu])) (by simpa using ht)
      simp [List.findIdx?_cons, ha, this]
theorem find_of_idx {α : Type} {f : α → Bool} {ts : List α} {k : Nat} (h : ts.findIdx? f = some k) : ∃ t, ts[k]? = some t ∧ ts.find? f = some t ∧ f t = true := by
  induction ts generalizing k with
  | nil => simp at h
  | cons a ts ih =>
    rw [List.findIdx?_cons] at h
    by_cases ha : f a = true
    · rw [if_pos ha] at h
      injection h with h
      subst h
      exact ⟨a, rfl, by simp [ha], ha⟩
    · rw [if_neg ha] at h
      simp only [Option.map_eq_some_iff] at h
      obtain ⟨j, hj, rfl⟩ := h
      obtain ⟨t, h1, h2, h3⟩ := ih hj
      exact ⟨t, by simpa using h1, by rw [List.find?_cons_of_neg ha]; exact h2, h3⟩
section
variable {b g : Nat} {s : ByteArray} {lv ov : Value} {p : Nat} {ln : Bool} {opn : List Int} {B x : Nat} {l : List UInt8}
theorem Lst.cell {w : World} (h : Lst b g lv w) {k : Nat} {t : List UInt8} (hk : Lx.signs[k]? = some t) : w.cell? ⟨g, k, none⟩ = some (.string ⟨t.toArray⟩) := by
  rw [cellN h.blk k]
  simp [signCells, hk]
theorem Lst.kf {w w' : World} {S : Nat → Obj → Prop} (h : Lst b g lv w) (hk : Kf S w w') (hS : ∀ o, ¬ S g o) : Lst b g lv w' := ⟨h.val, h.lt, hk.block g _ h.blk (hS _)⟩
set_option maxHeartbeats 1000000 in
set_option maxRecDepth 100000 in
theorem indexFunc_any (w : World) (hs : s.size ≤ 140737488351232) (hp : p ≤ s.size) (h : Scn b s lv p ln ov opn w) (hL : Lst b g lv w) :
    Calls Tryz.prog 108 #[lv, .func (.func 95) #[.pointer (some ⟨b, 0, none⟩)] #[]] w fun e w' => e = .returned (.int .i64 (sgnIdx s.data.toList p)) ∧ ∃ n, w' = w.drewN n := by
  rw [hL.val, signs_len]
  go_enter Tryz.func108, Tryz.ntmps108
  go_wp2
  go_loopw [8] (fun i wr => ∃ k n : Nat, k ≤ 52 ∧ i = .int .i64 k ∧ wr = w.drewN n ∧ ∀ t ∈ Lx.signs.take k, Lx.pre t s.data.toList p = false) (fun i _ => 52 - (intOf i).toNat)
  case atStart => exact ⟨0, 0, by omega, rfl, rfl, by simp⟩
  case round =>
    obtain ⟨k, n, hk, rfl, rfl, hno⟩ := hrel
    have HN := Lib.hid hno
    have HS := Lib.hid h
    have HL := Lib.hid hL
    clear hno h hL
    by_cases hlt : k < 52
    · obtain ⟨t, ht⟩ : ∃ t, Lx.signs[k]? = some t := ⟨_, List.getElem?_eq_getElem (by rw [signs_len]; exact hlt)⟩
      have hc := HL.out.cell ht
      have HT := Lib.hid ht
      clear ht
      cases hx : Lx.pre t s.data.toList p with
      | true =>
        have HX := Lib.hid hx
        clear hx
        go_wp2_with fail
        refine (has_any _ _ hs hp (HS.out.drewN _)).mono ?_
        rintro e w1 ⟨rfl, n1, rfl⟩
        rw [show Lx.pre (⟨t.toArray⟩ : ByteArray).data.toList s.data.toList p = true from HX.out]
        go_wp2
        go_ret
        exact ⟨by unfold sgnIdx; rw [findIdx_hit HN.out HT.out HX.out]; rfl, _, rfl⟩
      | false =>
        have HX := Lib.hid hx
        clear hx
        go_wp2_with fail
        refine (has_any _ _ hs hp (HS.out.drewN _)).mono ?_
        rintro e w1 ⟨rfl, n1, rfl⟩
        rw [show Lx.pre (⟨t.toArray⟩ : ByteArray).data.toList s.data.toList p = false from HX.out]
        go_wp2
        go_roundw
        case rel => exact ⟨k + 1, n + n1, by omega, by go_num, rfl, miss_step HN.out HT.out HX.out⟩
        case measure => simp [intOf]; omega
    · have hk52 : k = 52 := by omega
      subst hk52
      have FIN := Lib.hid (show sgnIdx s.data.toList p = -1 by
        unfold sgnIdx
        rw [List.findIdx?_eq_none_iff.2 (fun u hu => HN.out u (by rw [List.take_of_length_le (by rw [signs_len]; omega)]; exact hu))])
      go_wp2
      go_ret
      exact ⟨by rw [FIN.out]; rfl, _, rfl⟩
end
end Go.Proofs.YtcgibcjpkhefpaaGreatDoor

/-
  The reference's Units (29) and the program's (28): the units of a text.
-/
import Derived.Test.YtcgibcjpkhefpaaGreatDoorZA
import Derived.Test.YtcgibcjpkhefpaaGreatDoorZB
import Derived.Deep.RegionLaw
import Derived.OwnWalk
namespace Go.Proofs.YtcgibcjpkhefpaaGreatDoor
open Go.RowKit
theorem info55 : (Tryz.prog.info? 55).map (fun i => (i.zero, i.size, i.bytes)) = some (some (.int .u16 0), 1, 2) := by kernel_rfl
def u16V (n : Nat) : Value := .int .u16 n
/-- An operation without a guard is carried out. -/
theorem wanted_step {P : Program} {ops : Array Oper} {o : Oper} {a : Act} {w : World} {K : Act → World → Prop} {Q : Exit → Act → World → Prop} {E : Prop} (hg : o.guard = none) (h : Oper.wp P o a w K Q) :
    if Region.wanted o (yielded ops a.tmps) = true then Oper.wp P o a w K Q else E := by
  rw [if_pos (by simp [Region.wanted, hg])]; exact h
theorem cellU {w : World} {B : Nat} {c : Array Value} {e : TypeId} (h : w.heap[B]? = some (.cells c e (0,0))) (j : Nat) : w.cell? ⟨B, j, none⟩ = c[j]? := by simp [World.cell?, h]
theorem cell_newU {w : World} {v : Value} {t : TypeId} {k : Nat} (hk : k = w.heap.size) : (w.alloc (.cells #[v] t)).cell? ⟨k, 0, none⟩ = some v := by
  subst hk
  rw [cellU (heap_alloc_new w _) 0]
  rfl
theorem below_grown {B : Nat} {w0 w w' : World} {row : Option Nat} (h0 : Below B w0 w) (h : w.grownBy w' row) (hB : B ≤ w.heap.size) (hr : ∀ k, row = some k → B ≤ k) : Below B w0 w' :=
  h0.trans ⟨h.os, h.tape, h.output, h.size, fun k hk => h.block k (by omega) (fun e => by have := hr k e.symm; omega)⟩
/-- The unit at place j. -/
theorem unit_at : ∀ (n : Nat) (l : List UInt8), l.length ≤ n → ∀ j, 2 * j + 1 < l.length → (Lx.unitsOf l)[j]? = some ((Lx.pk l (2 * j)).toNat * 256 + (Lx.pk l (2 * j + 1)).toNat)
  | _, [], _, j, h => by simp at h
  | _, [_], _, j, h => by simp at h
  | 0, a :: b :: r, hn, j, h => by simp at hn
  | n + 1, a :: b :: r, hn, j, h => by
    cases j with
    | zero => simp [Lx.unitsOf, Lx.pk]
    | succ j =>
      have := unit_at n r (by simp at hn; omega) j (by simp at h; omega)
      rw [Lx.unitsOf, List.getElem?_cons_succ, this]
      simp [Lx.pk, Nat.mul_add]
theorem units_len : ∀ (n : Nat) (l : List UInt8), l.length ≤ n → (Lx.unitsOf l).length = l.length / 2
  | _, [], _ => by simp [Lx.unitsOf]
  | _, [_], _ => by simp [Lx.unitsOf]
  | 0, a :: b :: r, hn => by simp at hn
  | n + 1, a :: b :: r, hn => by
    have := units_len n r (by simp at hn; omega)
    simp [Lx.unitsOf, this]; omega
theorem u16_in (x : Int) (h : 0 ≤ x ∧ x < 65536) : IntKind.u16.wrap x = x := by
  simp [IntKind.wrap, IntKind.signed, IntKind.bits]
  omega
set_option maxHeartbeats 4000000 in
set_option maxRecDepth 100000 in
theorem runits_any (s : ByteArray) (w : World) (hs : s.size ≤ 262144) :
    Calls Tryz.prog 29 #[.string s] w fun e w' => ∃ v, e = .returned v ∧ w'.ownsRow w.heap.size 55 1 v (Lx.unitsOf s.data.toList).length ((Lx.unitsOf s.data.toList).map u16V) ∧ Below w.heap.size w w' := by
  have hlen : s.data.toList.length = s.size := by simp
  have HL := Lib.hid (units_len _ s.data.toList (Nat.le_refl _))
  go_enter Tryz.func29, Tryz.ntmps29
  go_wp2
  go_loopw [3, 4] (fun v i wr => ∃ j : Nat, i = .int .i64 ((2 * j : Nat) : Int) ∧ j ≤ s.size / 2 ∧ wr.ownsRow w.heap.size 55 1 v j (((Lx.unitsOf s.data.toList).take j).map u16V) ∧ Below w.heap.size w wr) (fun _ i _ => s.size - (intOf i).toNat)
  case atStart => exact ⟨0, rfl, by omega, ⟨by simp, Or.inl ⟨rfl, rfl⟩⟩, Below.refl _ _⟩
  case round =>
    obtain ⟨j, rfl, hj, hown, hB⟩ := hrel
    have HO := Lib.hid hown
    have HB := Lib.hid hB
    clear hown hB
    obtain ⟨n, hn⟩ : ∃ n : Nat, 2 * j = n := ⟨_, rfl⟩
    rw [hn]
    have HN := Lib.hid hn
    clear hn
    by_cases hlt : n + 1 < s.size
    · have h2 : (n : Int) < s.size := by omega
      have h3 : (n : Int) + 1 < s.size := by omega
      have hw : IntKind.i64.wrap ((n : Int) + 1) = (n : Int) + 1 := IntWalk.i64_in _ (by omega)
      have ht : ((n : Int) + 1).toNat = n + 1 := by omega
      have h0 : 0 ≤ (n : Int) + 1 := by omega
      obtain ⟨i0, hi, hz0, hz1, hz2⟩ := info_parts info55
      have HI := Lib.hid (And.intro hi (And.intro hz0 (And.intro hz1 hz2)))
      clear hi hz0 hz1 hz2
      have ha := (s[n]'(by omega)).toNat_lt
      have hb := (s[n + 1]'(by omega)).toNat_lt
      have w1 : IntKind.u16.wrap ((s[n]'(by omega)).toNat : Int) = ((s[n]'(by omega)).toNat : Int) := u16_in _ (by omega)
      have w2 : IntKind.u16.wrap (((s[n]'(by omega)).toNat : Int) * 256) = ((s[n]'(by omega)).toNat : Int) * 256 := u16_in _ (by omega)
      have w3 : IntKind.u16.wrap ((s[n + 1]'(by omega)).toNat : Int) = ((s[n + 1]'(by omega)).toNat : Int) := u16_in _ (by omega)
      have w4 : IntKind.u16.wrap (((s[n]'(by omega)).toNat : Int) * 256 + ((s[n + 1]'(by omega)).toNat : Int)) = ((s[n]'(by omega)).toNat : Int) * 256 + ((s[n + 1]'(by omega)).toNat : Int) := u16_in _ (by omega)
      have HV := Lib.hid (show (Lx.unitsOf s.data.toList)[j]? = some ((s[n]'(by omega)).toNat * 256 + (s[n + 1]'(by omega)).toNat) by
        rw [unit_at _ _ (Nat.le_refl _) j (by have := HN.out; omega), HN.out]
        have p1 : Lx.pk s.data.toList n = s[n]'(by omega) := by simp [Lx.pk, (show n < s.size by omega)]; rfl
        have p2 : Lx.pk s.data.toList (n + 1) = s[n + 1]'(by omega) := by simp [Lx.pk, hlt]; rfl
        rw [p1, p2])
      have C3 := Lib.hid (show j + 1 ≤ maxLen by unfold maxLen; omega)
      have C4 := Lib.hid (show (j + 1) * 2 ≤ 140737488355328 by omega)
      have C5 := Lib.hid (show ∀ o, w.heap.size ≤ (wr.drew.alloc o).heap.size from fun o => by have := HB.out.size; simp; omega)
      clear ha hb
      go_wp2
      go_region_law (refine wanted_step rfl (wp_append_own _ (.tmp 12) (.tmp 24) 53 rfl w.heap.size 55 i0 (.int .u16 0) 1 2 Tryz.underlying53 HI.out.1 HI.out.2.1 HI.out.2.2.1 HI.out.2.2.2 rfl (by decide) _ _ _ (by simp [Act.eval]) (HO.out.drew.alloc _) ⟨wr.heap.size, 0, none⟩ 1 1 [.int .u16 (((s[n]'(by omega)).toNat : Int) * 256 + ((s[n + 1]'(by omega)).toNat : Int))] (by simp [Act.eval]) rfl (fun q u hq => by
        match q, hq with
        | 0, hq => simp at hq; subst hq; exact cell_newU rfl) (fun u hu => by simp at hu; subst hu; rfl) C3.out C4.out (C5.out _) (fun v' w' hown' hgrow _ => ?_)))
      all_goals
        have HX := Lib.hid hown'
        have HB2 := Lib.hid (show Below w.heap.size w _ from below_grown ((HB.out.drew).alloc (by have := HB.out.size; simpa using this) _) hgrow (C5.out _) (fun k hk => (HO.out.lt k hk).1))
        clear hown' hgrow
        go_wp2
        refine ⟨⟨j + 1, by have := HN.out; congr 1; omega, by have := HN.out; omega, ?_, HB2.out⟩, by simp [intOf]; omega⟩
        have e : ((Lx.unitsOf s.data.toList).take (j + 1)).map u16V = ((Lx.unitsOf s.data.toList).take j).map u16V ++ [.int .u16 (((s[n]'(by omega)).toNat : Int) * 256 + ((s[n + 1]'(by omega)).toNat : Int))] := by
          rw [List.take_add_one, HV.out]
          simp [u16V]
        rw [e]
        exact HX.out
    · have hd : decide ((n : Int) + 1 < s.size) = false := by simp; omega
      have hw : IntKind.i64.wrap ((n : Int) + 1) = (n : Int) + 1 := IntWalk.i64_in _ (by have := HN.out; omega)
      go_wp2
      have hjl : j = (Lx.unitsOf s.data.toList).length := by have := HN.out; have := HL.out; omega
      have h := HO.out
      rw [hjl, List.take_length] at h
      exact bodyPost_ret (v := _) (by simp [results, Tryz.results29]) rfl ⟨_, rfl, h, HB.out⟩
end Go.Proofs.YtcgibcjpkhefpaaGreatDoor

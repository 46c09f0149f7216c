/-
  A part of the proof: Scan at a text of bytes below 128.
-/
import Derived.Test.YtcgibcjpkhefpaaGreatDoorW19
namespace Go.Proofs.YtcgibcjpkhefpaaGreatDoor
open Go.RowKit
set_option maxHeartbeats 4000000 in
set_option maxRecDepth 100000 in
theorem may_ascii (s : ByteArray) (w : World) (ha : ∀ b ∈ s.data.toList, b.toNat < 128) (hs : s.size ≤ 262144) :
    Calls Tryz.prog 22 #[.string s] w fun e w' => e = .returned (.tuple #[.int .i64 0, .int .i64 0]) ∧ Below w.heap.size w w' := by
  have hg : ((s.size : Int) > 262144) = False := by simp; omega
  have hg2 : decide (262144 < s.size) = false := by simp; omega
  go_enter Tryz.func22, Tryz.ntmps22
  go_wp2_with fail
  refine (units_ascii s _ ha hs).mono ?_
  rintro e w1 ⟨⟨X, rfl⟩, hb⟩
  go_wp2
  exact bodyPost_ret (v := .tuple #[.int .i64 0, .int .i64 0]) (by simp [results, Tryz.results22]) rfl ⟨rfl, hb⟩
theorem own_le {w : World} {base base' size n : Nat} {e : TypeId} {v : Value} {xs : List Value} (h : w.ownsRow base e size v n xs) (hb : base' ≤ base) : w.ownsRow base' e size v n xs := by
  obtain ⟨g1, g2⟩ := h
  refine ⟨g1, ?_⟩
  rcases g2 with g2 | ⟨g, cap, cur, hv, hg, r⟩
  · exact Or.inl g2
  · exact Or.inr ⟨g, cap, cur, hv, Nat.le_trans hb hg, r⟩
/-- Behind Scan. -/
def ScanPost (E : Lx.Env) (s : ByteArray) (w : World) (e : Ending) (w' : World) : Prop :=
  Below w.heap.size w w' ∧ match Lx.scan E s.data.toList with
    | .ok ts => ∃ v, e = .returned (.tuple #[v, .int .i64 0, .int .i64 0]) ∧ w'.ownsRow w.heap.size 31 7 v ts.length (toksC ts)
    | .error a => e = .returned (.tuple #[.slice none 0 0, .int .i64 a, .int .i64 50])
set_option maxHeartbeats 4000000 in
set_option maxRecDepth 100000 in
theorem scan_ascii (E : Lx.Env) (s : ByteArray) (V : Nat → Prop) (R : Nat → List Int → Prop) (w0 w : World) (ha : ∀ b ∈ s.data.toList, b.toNat < 128) (hR : RunOk E s V R) (hCM : CmOk E s V) (hVS : VSkip E s.data.toList V) (hLO : LitOk E s V w0) (hM : MaxOk w0)
    (hG : Below w0.heap.size w0 w) (hs : s.size ≤ 262144) (htab : ∀ w, Below w0.heap.size w0 w → Lib.TabIs Tryz.prog w "strings.asciiSpace" .u8 Lib.asciiSpaceTab) :
    Calls Tryz.prog 11 #[.string s] w (ScanPost E s w) := by
  have hmf : ∀ (fn : Fn) (first cap : Array Value) (w : World), (Instr.makeFunc fn first cap).run Tryz.prog w = .ok (.func fn first cap) w := fun _ _ _ _ => rfl
  go_enter Tryz.func11, Tryz.ntmps11
  go_wp2_with fail
  refine (may_ascii s _ ha hs).mono ?_
  rintro e w1 ⟨rfl, hb⟩
  have hg1 : Below w0.heap.size w0 w1 := hG.trans (hb.mono hG.size)
  have hsz := hb.size
  have hsz0 := hG.size
  go_wp2_with fail
  refine (each_any E s V R w0 (w1.alloc (.cells #[.slice none 0 0] 24)) w1.heap.size (.slice none 0 0) hR hCM hVS hLO hM (hg1.alloc (by omega) _) (by omega) hs htab ⟨heap_alloc_new _ _, ⟨by simp [toksC], Or.inl ⟨rfl, rfl⟩⟩⟩).mono ?_
  rintro e w2 ⟨hK, hP⟩
  have hB2 : Below w1.heap.size w1 w2 := (((Kf.refl (fun k _ => w1.heap.size ≤ k) w1).alloc _).trans hK).below (Nat.le_refl _) (fun _ _ h => h)
  have HB := Lib.hid (hb.trans (hB2.mono hsz))
  cases hsc : Lx.scan E s.data.toList with
  | error a =>
    rw [hsc] at hP
    subst hP
    go_wp2
    exact bodyPost_ret (v := .tuple #[.slice none 0 0, .int .i64 a, .int .i64 50]) (by simp [results, Tryz.results11]) rfl ⟨HB.out, by rw [hsc]⟩
  | ok ts =>
    rw [hsc] at hP
    obtain ⟨he, v, hC⟩ := hP
    subst he
    have k0 : w2.cell? ⟨w1.heap.size, 0, none⟩ = some v := by simp [World.cell?, hC.blk]
    go_wp2
    exact bodyPost_ret (v := .tuple #[v, .int .i64 0, .int .i64 0]) (by simp [results, Tryz.results11]) rfl ⟨HB.out, by rw [hsc]; exact ⟨v, rfl, own_le hC.own (by omega)⟩⟩
end Go.Proofs.YtcgibcjpkhefpaaGreatDoor

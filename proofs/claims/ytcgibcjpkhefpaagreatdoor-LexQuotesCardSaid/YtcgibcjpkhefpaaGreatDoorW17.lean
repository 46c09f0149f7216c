/-
  A part of the proof: the closure that collects tokens.
-/
import Derived.Test.YtcgibcjpkhefpaaGreatDoorW16
import Derived.Test.YtcgibcjpkhefpaaGreatDoorW15
namespace Go.Proofs.YtcgibcjpkhefpaaGreatDoor
open Go.RowKit
def tokC (t : Lx.Tok) : List Value := [.int .i64 t.tk.kind, .string ⟨t.tk.text.toArray⟩, .string ⟨t.tk.str.toArray⟩, .float .f64 t.tk.num, .int .i64 t.frm, .int .i64 t.till, .bool t.line]
def toksC (acc : List Lx.Tok) : List Value := acc.flatMap tokC
def tokW (t : Lx.Tok) : Value := tokV t.tk t.frm t.till t.line
/-- The captured list of tokens in block c. -/
structure Cap (c : Nat) (acc : List Lx.Tok) (v : Value) (w : World) : Prop where
  blk : w.heap[c]? = some (.cells #[v] 24 (0, 0))
  own : w.ownsRow (c + 1) 31 7 v acc.length (toksC acc)
def IsT (o : Obj) : Prop := ∃ c fz, o = .cells c 31 fz
def St (c : Nat) (v : Value) : Nat → Obj → Prop := fun k o => k = c ∨ (some k = v.ownBlock ∧ c < k ∧ IsT o)
theorem info31 : (Tryz.prog.info? 31).map (fun i => (i.zero, i.size, i.bytes)) = some (some (.agg tok0), 7, 72) := by kernel_rfl
theorem kf_ownT {c : Nat} {w0 w w' : World} {v : Value} {n : Nat} {xs : List Value} (hown : w.ownsRow (c + 1) 31 7 v n xs) (h : w.grownBy w' v.ownBlock) (h0 : Kf (St c v) w0 w) : Kf (St c v) w0 w' := by
  refine h0.trans ((kf_grown h).weaken (fun k o ho e => ?_))
  rcases hown.2 with ⟨hv, _⟩ | ⟨g, cap, cur, hv, hg, hh, _⟩
  · rw [hv] at e; cases e.1
  · rw [hv] at e
    have e1 : k = g := Option.some.inj e.1
    subst e1
    rw [hh] at ho
    injection ho with ho
    exact Or.inr ⟨by rw [hv]; rfl, by omega, _, _, ho.symm⟩
set_option maxHeartbeats 2000000 in
set_option maxRecDepth 100000 in
theorem yield_any {c : Nat} {acc : List Lx.Tok} {v : Value} (w : World) (t : Lx.Tok) (h : Cap c acc v w) (ha : acc.length ≤ 262144) :
    Calls Tryz.prog 24 #[tokW t, .pointer (some ⟨c, 0, none⟩)] w fun e w' => e = .returned (.bool true) ∧ (∃ v', Cap c (acc ++ [t]) v' w') ∧ Kf (St c v) w w' := by
  obtain ⟨fs, hd⟩ : ∃ fs, Tryz.prog.underlying 31 = some (.struct fs) := by
    have := under31
    cases h : Tryz.prog.underlying 31 with
    | none => rw [h] at this; cases this
    | some d => rw [h] at this; cases d <;> first | exact ⟨_, rfl⟩ | cases this
  obtain ⟨hblk, hown⟩ := h
  have hlt := lt_of_heap hblk
  have hcell : ∀ o, (w.alloc o).cell? ⟨c, 0, none⟩ = some v := fun o => by
    have e : (w.alloc o).heap[c]? = some (.cells #[v] 24 (0, 0)) := by rw [Below.heap_alloc _ _ _ hlt]; exact hblk
    simp [World.cell?, e]
  obtain ⟨i0, hi, hz0, hz1, hz2⟩ := info_parts info31
  have HI := Lib.hid (And.intro hi (And.intro hz0 (And.intro hz1 hz2)))
  clear hi hz0 hz1 hz2
  have HT := Lib.hid (show ∀ x y z, tokC x = y → z = y.toArray → z.toList = tokC x from fun _ _ _ h1 h2 => by rw [h2, h1])
  change Calls Tryz.prog 24 #[.agg #[.int .i64 t.tk.kind, .string ⟨t.tk.text.toArray⟩, .string ⟨t.tk.str.toArray⟩, .float .f64 t.tk.num, .int .i64 t.frm, .int .i64 t.till, .bool t.line], .pointer (some ⟨c, 0, none⟩)] w _
  go_enter Tryz.func24, Tryz.ntmps24
  go_wp2_with (at_builtin; refine wpList_append_own _ rfl _ _ 24 rfl (c + 1) 31 i0 (.agg tok0) 7 72 Tryz.underlying24 HI.out.1 HI.out.2.1 HI.out.2.2.1 HI.out.2.2.2 rfl (by decide) _ _ _ rfl ((hown.alloc _).alloc _) ⟨w.heap.size + 1, 0, none⟩ 1 1 (tokC t) rfl rfl ?c1 ?c2 ?c3 ?c4 ?c5 ?_)
  case c1 =>
    intro j u hj
    have hadd : (⟨w.heap.size + 1, 0, none⟩ : Addr).add j = ⟨w.heap.size + 1, j, none⟩ := by unfold Addr.add; split <;> simp_all
    rw [hadd]
    have hn := heap_alloc_new (w.alloc (.cells #[.int .i64 t.tk.kind, .string ⟨t.tk.text.toArray⟩, .string ⟨t.tk.str.toArray⟩, .float .f64 t.tk.num, .int .i64 t.frm, .int .i64 t.till, .bool t.line] 31)) (.cells #[.int .i64 t.tk.kind, .string ⟨t.tk.text.toArray⟩, .string ⟨t.tk.str.toArray⟩, .float .f64 t.tk.num, .int .i64 t.frm, .int .i64 t.till, .bool t.line] 31)
    have hsz : ∀ o, (w.alloc o).heap.size = w.heap.size + 1 := fun o => by simp
    rw [hsz] at hn
    rw [cellN hn j, ← hj]
    show (tokC t).toArray[j]? = (tokC t)[j]?
    simp
  case c2 => intro u hu; simp [tokC] at hu; rcases hu with rfl | rfl | rfl | rfl | rfl | rfl | rfl <;> rfl
  case c3 => unfold maxLen; omega
  case c4 => omega
  case c5 => simp; omega
  intro v' w2 hown' hgrow _
  have HX := Lib.hid hown'
  have HKF := Lib.hid (kf_ownT (w0 := w) ((hown.alloc _).alloc _) hgrow (((Kf.refl _ _).alloc _).alloc _))
  have hb2 : w2.heap[c]? = some (.cells #[v] 24 (0, 0)) := by
    refine (kf_grown hgrow).block c _ ?_ (fun e => ?_)
    · rw [Below.heap_alloc _ _ _ (by simp; omega), Below.heap_alloc _ _ _ hlt]; exact hblk
    · have := (hown.lt c e.1.symm).1
      omega
  clear hown' hgrow
  have k3 : w2.cell? ⟨c, 0, none⟩ = some v := by simp [World.cell?, hb2]
  have g3 : w2.frozen? ⟨c, 0, none⟩ = false := by simp [World.frozen?, hb2]
  obtain ⟨g, cap, rfl⟩ : ∃ g cap, v' = .slice (some ⟨g, 0, none⟩) (acc.length + 1) cap := by
    rcases HX.out.2 with ⟨_, h0⟩ | ⟨g, cap, cur, hv, _⟩
    · omega
    · exact ⟨g, cap, hv⟩
  go_wp2_with fail
  have FIN : (e : Ending) → e = .returned (.bool true) → e = .returned (.bool true) ∧ (∃ v', Cap c (acc ++ [t]) v' (w2.setCell ⟨c, 0, none⟩ (.slice (some ⟨g, 0, none⟩) (acc.length + 1) cap))) ∧ Kf (St c v) w (w2.setCell ⟨c, 0, none⟩ (.slice (some ⟨g, 0, none⟩) (acc.length + 1) cap)) := by
    intro e he
    refine ⟨he, ⟨.slice (some ⟨g, 0, none⟩) (acc.length + 1) cap, ?_, ?_⟩, Kf.set (a := ⟨c, 0, none⟩) HKF.out (fun _ _ => Or.inl rfl) _⟩
    · rw [heap_setSelf hb2]; rfl
    · have := ownsRow_setCell_other HX.out (a := ⟨c, 0, none⟩) (by
        intro e
        injection e with e
        have := (HX.out.lt g rfl).1
        simp at e; omega) (.slice (some ⟨g, 0, none⟩) (acc.length + 1) cap)
      simpa [toksC] using this
  exact bodyPost_ret (v := .bool true) (by simp [results, Tryz.results24]) rfl (FIN _ rfl)
theorem Cap.kf {c : Nat} {acc : List Lx.Tok} {v : Value} {w w' : World} {S : Nat → Obj → Prop} (h : Cap c acc v w) (hk : Kf S w w') (h1 : ¬ S c (.cells #[v] 24 (0, 0))) (h2 : ∀ k c', c < k → ¬ S k (.cells c' 31 (0, 0))) : Cap c acc v w' :=
  ⟨hk.block c _ h.blk h1, by
    obtain ⟨g1, g2⟩ := h.own
    refine ⟨g1, ?_⟩
    rcases g2 with g2 | ⟨g, cap, cur, hv, hg, hh, r⟩
    · exact Or.inl g2
    · exact Or.inr ⟨g, cap, cur, hv, hg, hk.block g _ hh (h2 _ _ (by omega)), r⟩⟩
theorem Cap.lt {c : Nat} {acc : List Lx.Tok} {v : Value} {w : World} (h : Cap c acc v w) : ∀ k, v.ownBlock = some k → c + 1 ≤ k ∧ k < w.heap.size := h.own.lt
end Go.Proofs.YtcgibcjpkhefpaaGreatDoor

/-
  Words for the walks of the lexer: the scanner's block, what a call of its methods leaves alone.
-/
import Derived.Test.YtcgibcjpkhefpaaGreatDoorProg
import Derived.Test.YtcgibcjpkhefpaaGreatDoorM0
import Derived.WalkKit
import Derived.WalkSpells
import Derived.WalkLawsBesides
import Derived.BigQuiet
import Derived.Deep.QuietTactic
import Derived.Lib.Hide
import Derived.Lib.OthersKept
import Derived.OneCell
import Derived.IntWalk
import Derived.WalkSmall
namespace Go.Proofs.YtcgibcjpkhefpaaGreatDoor
open Go.RowKit

/-- Blocks that no method of the scanner writes: all but those of ints, bytes, scanners and Builders. -/
def Calm : Obj → Prop
  | .cells _ t _ => t ≠ 3 ∧ t ≠ 5 ∧ t ≠ 66 ∧ t ≠ 80
  | _ => True

/-- What is no block of S stands as it stood. -/
structure Kf (S : Nat → Obj → Prop) (w w' : World) : Prop where
  os : w'.os = w.os
  tape : w'.tape = w.tape
  output : w'.output = w.output
  size : w.heap.size ≤ w'.heap.size
  block : ∀ k o, w.heap[k]? = some o → ¬ S k o → w'.heap[k]? = some o

/-- The scanner's block alone. -/
def So (b : Nat) : Nat → Obj → Prop := fun k _ => k = b
/-- From block b on those that are not calm. -/
def Sp (b : Nat) : Nat → Obj → Prop := fun k o => b ≤ k ∧ ¬ Calm o
def IsB (o : Obj) : Prop := ∃ c fz, o = .cells c 5 fz
/-- The scanner's block, the Builder's, rows of bytes behind it. -/
def Sx (b x : Nat) : Nat → Obj → Prop := fun k o => k = b ∨ k = x ∨ (x ≤ k ∧ IsB o)

section
variable {S : Nat → Obj → Prop} {w w1 w2 : World}
theorem Kf.refl (S : Nat → Obj → Prop) (w : World) : Kf S w w := ⟨rfl, rfl, rfl, Nat.le_refl _, fun _ _ h _ => h⟩
theorem Kf.trans (h : Kf S w w1) (k : Kf S w1 w2) : Kf S w w2 :=
  ⟨k.os.trans h.os, k.tape.trans h.tape, k.output.trans h.output, Nat.le_trans h.size k.size, fun i o hi ho => k.block i o (h.block i o hi ho) ho⟩
theorem Kf.drewN (h : Kf S w w1) (n : Nat) : Kf S w (w1.drewN n) := ⟨h.os, h.tape, h.output, h.size, h.block⟩
theorem Kf.drew (h : Kf S w w1) : Kf S w w1.drew := ⟨h.os, h.tape, h.output, h.size, h.block⟩
theorem lt_of_heap {w : World} {k : Nat} {o : Obj} (h : w.heap[k]? = some o) : k < w.heap.size := by
  rcases Nat.lt_or_ge k w.heap.size with h' | h'
  · exact h'
  · simp [Array.getElem?_eq_none h'] at h
theorem Kf.of_below (S : Nat → Obj → Prop) (h : Below w.heap.size w w1) : Kf S w w1 :=
  ⟨h.os, h.tape, h.output, h.size, fun k o hk _ => by rw [h.block k (lt_of_heap hk)]; exact hk⟩
theorem Kf.alloc (h : Kf S w w1) (o : Obj) : Kf S w (w1.alloc o) :=
  h.trans (Kf.of_below S ((Below.refl _ _).alloc (Nat.le_refl _) o))
theorem Kf.set (h : Kf S w w1) {a : Addr} (hs : ∀ o, w1.heap[a.block]? = some o → S a.block o) (u : Value) : Kf S w (w1.setCell a u) :=
  h.trans ⟨rfl, rfl, rfl, by simp [World.setCell], fun k o' hk hko => by
    rw [Below.heap_setCell _ _ _ _ (fun e => ?_)]
    · exact hk
    · subst e
      exact hko (hs _ hk)⟩
theorem Kf.setB {b : Nat} (h : Kf (So b) w w1) (i : Nat) (u : Value) : Kf (So b) w (w1.setCell ⟨b, i, none⟩ u) := Kf.set (a := ⟨b, i, none⟩) h (fun _ _ => rfl) u
theorem Kf.weaken {S' : Nat → Obj → Prop} (h : Kf S w w1) (hS : ∀ k o, w.heap[k]? = some o → S k o → S' k o) : Kf S' w w1 :=
  ⟨h.os, h.tape, h.output, h.size, fun k o hk hn => h.block k o hk (fun x => hn (hS k o hk x))⟩
theorem Kf.below {B : Nat} (h : Kf S w w1) (hB : B ≤ w.heap.size) (hS : ∀ k o, S k o → B ≤ k) : Below B w w1 :=
  ⟨h.os, h.tape, h.output, h.size, fun k hk => by
    have hlt : k < w.heap.size := by omega
    rw [h.block k w.heap[k] (by rw [Array.getElem?_eq_getElem hlt]) (fun x => by have := hS _ _ x; omega), Array.getElem?_eq_getElem hlt]⟩
end

def IsIt (o : Obj) : Prop := ∃ s pos, o = .stringIter s pos
theorem kf_iter {w : World} {k : Nat} {s : ByteArray} {pos : Nat} (hk : w.heap[k]? = some (.stringIter s pos)) (pos' : Nat) : Kf (fun _ o => IsIt o) w (w.iterAt k s pos') :=
  ⟨rfl, rfl, rfl, by rw [Lib.iterAt_size]; exact Nat.le_refl _, fun j o hj hn => by
    by_cases h : j = k
    · subst h; rw [hk] at hj; injection hj with hj; exact absurd ⟨s, pos, hj.symm⟩ hn
    · rw [Lib.iterAt_other _ _ _ _ _ h]; exact hj⟩
theorem Kf.iterNew {S : Nat → Obj → Prop} {w w1 : World} (h : Kf S w w1) {k : Nat} (hk : w.heap.size ≤ k) (s : ByteArray) (pos : Nat) : Kf S w (w1.iterAt k s pos) :=
  ⟨h.os, h.tape, h.output, by rw [Lib.iterAt_size]; exact h.size, fun j o hj hn => by
    rw [Lib.iterAt_other _ _ _ _ _ (by have := lt_of_heap hj; omega)]; exact h.block j o hj hn⟩

/-- The scanner at block b: source, place, line, open braces (value and numbers), the list of signs. -/
structure Scn (b : Nat) (s : ByteArray) (lv : Value) (p : Nat) (ln : Bool) (ov : Value) (opn : List Int) (w : World) : Prop where
  blk : w.heap[b]? = some (.cells #[.string s, .int .i64 p, .bool ln, ov, lv] 66 (0, 0))
  own : w.ownsRow (b + 1) 3 1 ov opn.length (opn.map (Value.int .i64))

section
variable {b : Nat} {s : ByteArray} {lv ov : Value} {p : Nat} {ln : Bool} {opn : List Int} {w : World}
theorem Scn.c0 (h : Scn b s lv p ln ov opn w) : w.cell? ⟨b, 0, none⟩ = some (.string s) := by simp [World.cell?, h.blk]
theorem Scn.c1 (h : Scn b s lv p ln ov opn w) : w.cell? ⟨b, 1, none⟩ = some (.int .i64 p) := by simp [World.cell?, h.blk]
theorem Scn.c2 (h : Scn b s lv p ln ov opn w) : w.cell? ⟨b, 2, none⟩ = some (.bool ln) := by simp [World.cell?, h.blk]
theorem Scn.c3 (h : Scn b s lv p ln ov opn w) : w.cell? ⟨b, 3, none⟩ = some ov := by simp [World.cell?, h.blk]
theorem Scn.c4 (h : Scn b s lv p ln ov opn w) : w.cell? ⟨b, 4, none⟩ = some lv := by simp [World.cell?, h.blk]
theorem Scn.fz (h : Scn b s lv p ln ov opn w) (i : Nat) : w.frozen? ⟨b, i, none⟩ = false := by simp [World.frozen?, h.blk]
theorem Scn.lt (h : Scn b s lv p ln ov opn w) : b < w.heap.size := lt_of_heap h.blk
theorem Scn.drewN (h : Scn b s lv p ln ov opn w) (n : Nat) : Scn b s lv p ln ov opn (w.drewN n) := ⟨h.blk, h.own⟩
theorem Scn.drew (h : Scn b s lv p ln ov opn w) : Scn b s lv p ln ov opn w.drew := ⟨h.blk, h.own⟩
theorem Scn.alloc (h : Scn b s lv p ln ov opn w) (o : Obj) : Scn b s lv p ln ov opn (w.alloc o) :=
  ⟨by rw [Below.heap_alloc _ _ _ h.lt]; exact h.blk, h.own.alloc o⟩
theorem own_ne (h : w.ownsRow (b + 1) 3 1 ov opn.length (opn.map (Value.int .i64))) : ov.ownBlock ≠ some b := by
  intro e
  have := (h.lt b e).1
  omega
theorem heap_setSelf {w : World} {k : Nat} {c : Array Value} {t : TypeId} {fz : Nat × Nat} (h : w.heap[k]? = some (.cells c t fz)) (i : Nat) (u : Value) :
    (w.setCell ⟨k, i, none⟩ u).heap[k]? = some (.cells (c.setIfInBounds i u) t fz) := by
  have hlt := lt_of_heap h
  have h' : w.heap[k] = .cells c t fz := by simpa [Array.getElem?_eq_getElem hlt] using h
  show (w.heap.modify k _)[k]? = _
  rw [Array.getElem?_eq_getElem (by simpa using hlt), Array.getElem_modify_self, h']
  rfl
theorem Scn.setAt (h : Scn b s lv p ln ov opn w) (q : Nat) : Scn b s lv q ln ov opn (w.setCell ⟨b, 1, none⟩ (.int .i64 q)) :=
  ⟨by rw [heap_setSelf h.blk]; rfl, ownsRow_setCell_other h.own (own_ne h.own) _⟩
theorem Scn.setTo (h : Scn b s lv p ln ov opn w) {x : Int} {q : Nat} (e : x = q) : Scn b s lv q ln ov opn (w.setCell ⟨b, 1, none⟩ (.int .i64 x)) := by
  subst e; exact h.setAt q
theorem Scn.setLn (h : Scn b s lv p ln ov opn w) (x : Bool) : Scn b s lv p x ov opn (w.setCell ⟨b, 2, none⟩ (.bool x)) :=
  ⟨by rw [heap_setSelf h.blk]; rfl, ownsRow_setCell_other h.own (own_ne h.own) _⟩
/-- Behind a call that leaves the scanner's block and its row of braces. -/
theorem Scn.kf (h : Scn b s lv p ln ov opn w) {S : Nat → Obj → Prop} {w' : World} (hk : Kf S w w') (h1 : ∀ c, ¬ S b (.cells c 66 (0, 0))) (h2 : ∀ k c, b < k → ¬ S k (.cells c 3 (0, 0))) : Scn b s lv p ln ov opn w' :=
  ⟨hk.block b _ h.blk (h1 _), by
    obtain ⟨g1, g2⟩ := h.own
    refine ⟨g1, ?_⟩
    rcases g2 with g2 | ⟨g, cap, cur, hv, hg, hh, r⟩
    · exact Or.inl g2
    · exact Or.inr ⟨g, cap, cur, hv, hg, hk.block g _ hh (h2 _ _ (by omega)), r⟩⟩
theorem Scn.keep (h : Scn b s lv p ln ov opn w) {w' : World} (hb : Below w.heap.size w w') : Scn b s lv p ln ov opn w' :=
  h.kf (Kf.of_below (fun _ _ => False) hb) (fun _ => id) (fun _ _ _ => id)
theorem Scn.so_sp (h : Scn b s lv p ln ov opn w) {w' : World} (hk : Kf (So b) w w') : Kf (Sp b) w w' :=
  hk.weaken (fun k o ho e => by
    have e : k = b := e
    subst e
    rw [h.blk] at ho
    injection ho with ho
    exact ⟨Nat.le_refl _, by rw [← ho]; simp [Calm]⟩)
end

section
variable {b : Nat} {s : ByteArray} {lv ov : Value} {p : Nat} {ln : Bool} {opn : List Int} {w : World}
theorem Scn.iterAt (h : Scn b s lv p ln ov opn w) {k : Nat} {t : ByteArray} {pos : Nat} (hk : w.heap[k]? = some (.stringIter t pos)) (pos' : Nat) : Scn b s lv p ln ov opn (w.iterAt k t pos') :=
  h.kf (kf_iter hk pos') (fun _ e => by obtain ⟨_, _, e⟩ := e; cases e) (fun _ _ _ e => by obtain ⟨_, _, e⟩ := e; cases e)
end

/-- The Builder at block x (base B) that holds the bytes l. -/
def Bld (B x : Nat) (l : List UInt8) (w : World) : Prop := Lib.IsBuilderF 80 5 B x (Lib.byteCells l) w

section
variable {B x : Nat} {l : List UInt8} {w : World}
theorem Bld.kf (h : Bld B x l w) {S : Nat → Obj → Prop} {w' : World} (hk : Kf S w w') (h1 : ∀ c, ¬ S x (.cells c 80 (0, 0))) (h2 : ∀ k c fz, B ≤ k → ¬ S k (.cells c 5 fz)) : Bld B x l w' := by
  have aux : ∀ p, Lib.BuilderAtF 80 5 B x p (Lib.byteCells l) w → Lib.BuilderAtF 80 5 B x p (Lib.byteCells l) w' := by
    rintro p ⟨hB, v, hb, ⟨g1, g2⟩, hne⟩
    refine ⟨hB, v, hk.block x _ hb (h1 _), ⟨g1, ?_⟩, hne⟩
    rcases g2 with g2 | ⟨g, cap, cur, hi, hv, hg, hh, r⟩
    · exact Or.inl g2
    · exact Or.inr ⟨g, cap, cur, hi, hv, hg, hk.block g _ hh (h2 _ _ _ hg), r⟩
  exact h.elim (fun a => .inl (aux _ a)) (fun a => .inr (aux _ a))
theorem Bld.blk (h : Bld B x l w) : ∃ c, w.heap[x]? = some (.cells c 80 (0, 0)) := by
  rcases h with ⟨_, v, hb, _⟩ | ⟨_, v, hb, _⟩
  · exact ⟨_, hb⟩
  · exact ⟨_, hb⟩
theorem Bld.le (h : Bld B x l w) : B ≤ x ∧ x < w.heap.size := by
  obtain ⟨c, hc⟩ := h.blk
  exact ⟨h.elim (fun a => a.1) (fun a => a.1), lt_of_heap hc⟩
theorem Bld.drewN (h : Bld B x l w) (n : Nat) : Bld B x l (w.drewN n) := h
theorem Bld.keep (h : Bld B x l w) {w' : World} (hb : Below w.heap.size w w') : Bld B x l w' :=
  h.kf (Kf.of_below (fun _ _ => False) hb) (fun _ => id) (fun _ _ _ _ => id)
theorem Bld.alloc (h : Bld B x l w) (o : Obj) : Bld B x l (w.alloc o) := h.keep ((Below.refl _ _).alloc (Nat.le_refl _) o)
theorem Bld.iterAt (h : Bld B x l w) {k : Nat} {t : ByteArray} {pos : Nat} (hk : w.heap[k]? = some (.stringIter t pos)) (pos' : Nat) : Bld B x l (w.iterAt k t pos') :=
  h.kf (kf_iter hk pos') (fun _ e => by obtain ⟨_, _, e⟩ := e; cases e) (fun _ _ _ _ e => by obtain ⟨_, _, e⟩ := e; cases e)
/-- Behind a Builder's method the scanner stands. -/
theorem Scn.wrote {b : Nat} {s : ByteArray} {lv ov : Value} {p : Nat} {ln : Bool} {opn : List Int} (h : Scn b s lv p ln ov opn w) (hB : Bld B x l w) {w' : World} (hk : Lib.OthersKept 5 (some x) w w') : Scn b s lv p ln ov opn w' := by
  obtain ⟨c, hc⟩ := hB.blk
  refine ⟨hk b _ h.blk (fun e => ?_) (fun _ _ e => by injection e with _ e2 _; exact absurd e2 (by decide)), ?_⟩
  · have e : b = x := Option.some.inj e
    subst e; rw [h.blk] at hc; injection hc with hc; injection hc with _ hc _; exact absurd hc (by decide)
  · obtain ⟨g1, g2⟩ := h.own
    refine ⟨g1, ?_⟩
    rcases g2 with g2 | ⟨g, cap, cur, hv, hg, hh, r⟩
    · exact Or.inl g2
    · refine Or.inr ⟨g, cap, cur, hv, hg, hk g _ hh (fun e => ?_) (fun _ _ e => by injection e with _ e2 _; exact absurd e2 (by decide)), r⟩
      have e : g = x := Option.some.inj e
      subst e; rw [hh] at hc; injection hc with hc; injection hc with _ hc _; exact absurd hc (by decide)
/-- The Builder behind a store into the scanner's block. -/
theorem Bld.setScn {b : Nat} {s : ByteArray} {lv ov : Value} {p : Nat} {ln : Bool} {opn : List Int} (hB : Bld B x l w) (h : Scn b s lv p ln ov opn w) (i : Nat) (u : Value) : Bld B x l (w.setCell ⟨b, i, none⟩ u) := by
  refine Bld.kf hB (S := fun k o => k = b ∧ w.heap[b]? = some o) ?_ (fun c e => ?_) (fun k c fz _ e => ?_)
  · exact Kf.set (a := ⟨b, i, none⟩) (Kf.refl _ _) (fun o ho => ⟨rfl, ho⟩) u
  · have := e.2; rw [h.blk] at this; injection this with this; injection this with _ this _; exact absurd this (by decide)
  · have := e.2; rw [h.blk] at this; injection this with this; injection this with _ this _; exact absurd this (by decide)
/-- The Builder behind a method that writes the scanner's block alone. -/
theorem Bld.so {b : Nat} {s : ByteArray} {lv ov : Value} {p : Nat} {ln : Bool} {opn : List Int} (hB : Bld B x l w) (h : Scn b s lv p ln ov opn w) {w' : World} (hk : Kf (So b) w w') : Bld B x l w' := by
  refine Bld.kf hB (S := fun k o => k = b ∧ w.heap[b]? = some o) (hk.weaken fun k o ho e => ?_) (fun c e => ?_) (fun k c fz _ e => ?_)
  · have e : k = b := e
    subst e; exact ⟨rfl, ho⟩
  · have := e.2; rw [h.blk] at this; injection this with this; injection this with _ this _; exact absurd this (by decide)
  · have := e.2; rw [h.blk] at this; injection this with this; injection this with _ this _; exact absurd this (by decide)
theorem so_sx {b : Nat} {w' : World} (hk : Kf (So b) w w') : Kf (Sx b x) w w' := hk.weaken (fun _ _ _ e => Or.inl e)
/-- What a Builder's method leaves alone. -/
theorem kf_builder {b : Nat} {w' : World} (hb : Below x w w') (hk : Lib.OthersKept 5 (some x) w w') : Kf (Sx b x) w w' :=
  ⟨hb.os, hb.tape, hb.output, hb.size, fun k o hko hn => by
    by_cases hx : k < x
    · rw [hb.block k hx]; exact hko
    · exact hk k o hko (fun e => hn (Or.inr (Or.inl (Option.some.inj e)))) (fun c fz e => hn (Or.inr (Or.inr ⟨by omega, c, fz, e⟩)))⟩
end

theorem strExt (s : ByteArray) (p : Nat) : (s.extract p s.size).data.toList = s.data.toList.drop p := by
  rw [ByteArray.data_extract]
  simp only [Array.toList_extract, List.extract_eq_take_drop]
  rw [List.take_of_length_le (by simp)]

end Go.Proofs.YtcgibcjpkhefpaaGreatDoor

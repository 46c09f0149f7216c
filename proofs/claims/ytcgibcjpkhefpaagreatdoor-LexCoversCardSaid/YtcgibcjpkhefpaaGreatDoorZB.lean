/-
  Words for the walks of the lexer: the scanner's block, what a call of its methods leaves alone.
  The decimal of package internal/strconv in memory; trim (203).
-/
import Derived.Test.YtcgibcjpkhefpaaGreatDoorZA
import Derived.Test.YtcgibcjpkhefpaaGreatDoorProg
import Derived.WalkKit
import Derived.WalkSpells
import Derived.WalkLawsBesides
import Derived.BigQuiet
import Derived.Deep.QuietTactic
import Derived.Lib.Hide
import Derived.Lib.OthersKept
import Derived.OneCell
import Derived.IntWalk
import Derived.WalkSmall
namespace Go.Proofs.YtcgibcjpkhefpaaGreatDoor
open Go.RowKit

/-- Blocks that no method of the scanner writes: all but those of ints, bytes, scanners and Builders. -/
def Calm : Obj → Prop
  | .cells _ t _ => t ≠ 3 ∧ t ≠ 5 ∧ t ≠ 66 ∧ t ≠ 80
  | _ => True

/-- What is no block of S stands as it stood. -/
structure Kf (S : Nat → Obj → Prop) (w w' : World) : Prop where
  os : w'.os = w.os
  tape : w'.tape = w.tape
  output : w'.output = w.output
  size : w.heap.size ≤ w'.heap.size
  block : ∀ k o, w.heap[k]? = some o → ¬ S k o → w'.heap[k]? = some o

/-- The scanner's block alone. -/
def So (b : Nat) : Nat → Obj → Prop := fun k _ => k = b
/-- From block b on those that are not calm. -/
def Sp (b : Nat) : Nat → Obj → Prop := fun k o => b ≤ k ∧ ¬ Calm o
def IsB (o : Obj) : Prop := ∃ c fz, o = .cells c 5 fz
/-- The scanner's block, the Builder's, rows of bytes behind it. -/
def Sx (b x : Nat) : Nat → Obj → Prop := fun k o => k = b ∨ k = x ∨ (x ≤ k ∧ IsB o)

section
variable {S : Nat → Obj → Prop} {w w1 w2 : World}
theorem Kf.refl (S : Nat → Obj → Prop) (w : World) : Kf S w w := ⟨rfl, rfl, rfl, Nat.le_refl _, fun _ _ h _ => h⟩
theorem Kf.trans (h : Kf S w w1) (k : Kf S w1 w2) : Kf S w w2 :=
  ⟨k.os.trans h.os, k.tape.trans h.tape, k.output.trans h.output, Nat.le_trans h.size k.size, fun i o hi ho => k.block i o (h.block i o hi ho) ho⟩
theorem Kf.drewN (h : Kf S w w1) (n : Nat) : Kf S w (w1.drewN n) := ⟨h.os, h.tape, h.output, h.size, h.block⟩
theorem Kf.drew (h : Kf S w w1) : Kf S w w1.drew := ⟨h.os, h.tape, h.output, h.size, h.block⟩
theorem lt_of_heap {w : World} {k : Nat} {o : Obj} (h : w.heap[k]? = some o) : k < w.heap.size := by
  rcases Nat.lt_or_ge k w.heap.size with h' | h'
  · exact h'
  · simp [Array.getElem?_eq_none h'] at h
theorem Kf.of_below (S : Nat → Obj → Prop) (h : Below w.heap.size w w1) : Kf S w w1 :=
  ⟨h.os, h.tape, h.output, h.size, fun k o hk _ => by rw [h.block k (lt_of_heap hk)]; exact hk⟩
theorem Kf.alloc (h : Kf S w w1) (o : Obj) : Kf S w (w1.alloc o) :=
  h.trans (Kf.of_below S ((Below.refl _ _).alloc (Nat.le_refl _) o))
theorem Kf.set (h : Kf S w w1) {a : Addr} (hs : ∀ o, w1.heap[a.block]? = some o → S a.block o) (u : Value) : Kf S w (w1.setCell a u) :=
  h.trans ⟨rfl, rfl, rfl, by simp [World.setCell], fun k o' hk hko => by
    rw [Below.heap_setCell _ _ _ _ (fun e => ?_)]
    · exact hk
    · subst e
      exact hko (hs _ hk)⟩
theorem Kf.setB {b : Nat} (h : Kf (So b) w w1) (i : Nat) (u : Value) : Kf (So b) w (w1.setCell ⟨b, i, none⟩ u) := Kf.set (a := ⟨b, i, none⟩) h (fun _ _ => rfl) u
theorem Kf.weaken {S' : Nat → Obj → Prop} (h : Kf S w w1) (hS : ∀ k o, w.heap[k]? = some o → S k o → S' k o) : Kf S' w w1 :=
  ⟨h.os, h.tape, h.output, h.size, fun k o hk hn => h.block k o hk (fun x => hn (hS k o hk x))⟩
theorem Kf.below {B : Nat} (h : Kf S w w1) (hB : B ≤ w.heap.size) (hS : ∀ k o, S k o → B ≤ k) : Below B w w1 :=
  ⟨h.os, h.tape, h.output, h.size, fun k hk => by
    have hlt : k < w.heap.size := by omega
    rw [h.block k w.heap[k] (by rw [Array.getElem?_eq_getElem hlt]) (fun x => by have := hS _ _ x; omega), Array.getElem?_eq_getElem hlt]⟩
end

def IsIt (o : Obj) : Prop := ∃ s pos, o = .stringIter s pos
theorem kf_iter {w : World} {k : Nat} {s : ByteArray} {pos : Nat} (hk : w.heap[k]? = some (.stringIter s pos)) (pos' : Nat) : Kf (fun _ o => IsIt o) w (w.iterAt k s pos') :=
  ⟨rfl, rfl, rfl, by rw [Lib.iterAt_size]; exact Nat.le_refl _, fun j o hj hn => by
    by_cases h : j = k
    · subst h; rw [hk] at hj; injection hj with hj; exact absurd ⟨s, pos, hj.symm⟩ hn
    · rw [Lib.iterAt_other _ _ _ _ _ h]; exact hj⟩
theorem Kf.iterNew {S : Nat → Obj → Prop} {w w1 : World} (h : Kf S w w1) {k : Nat} (hk : w.heap.size ≤ k) (s : ByteArray) (pos : Nat) : Kf S w (w1.iterAt k s pos) :=
  ⟨h.os, h.tape, h.output, by rw [Lib.iterAt_size]; exact h.size, fun j o hj hn => by
    rw [Lib.iterAt_other _ _ _ _ _ (by have := lt_of_heap hj; omega)]; exact h.block j o hj hn⟩

/-- The scanner at block b: source, place, line, open braces (value and numbers), the list of signs. -/
structure Scn (b : Nat) (s : ByteArray) (lv : Value) (p : Nat) (ln : Bool) (ov : Value) (opn : List Int) (w : World) : Prop where
  blk : w.heap[b]? = some (.cells #[.string s, .int .i64 p, .bool ln, ov, lv] 66 (0, 0))
  own : w.ownsRow (b + 1) 3 1 ov opn.length (opn.map (Value.int .i64))

section
variable {b : Nat} {s : ByteArray} {lv ov : Value} {p : Nat} {ln : Bool} {opn : List Int} {w : World}
theorem Scn.c0 (h : Scn b s lv p ln ov opn w) : w.cell? ⟨b, 0, none⟩ = some (.string s) := by simp [World.cell?, h.blk]
theorem Scn.c1 (h : Scn b s lv p ln ov opn w) : w.cell? ⟨b, 1, none⟩ = some (.int .i64 p) := by simp [World.cell?, h.blk]
theorem Scn.c2 (h : Scn b s lv p ln ov opn w) : w.cell? ⟨b, 2, none⟩ = some (.bool ln) := by simp [World.cell?, h.blk]
theorem Scn.c3 (h : Scn b s lv p ln ov opn w) : w.cell? ⟨b, 3, none⟩ = some ov := by simp [World.cell?, h.blk]
theorem Scn.c4 (h : Scn b s lv p ln ov opn w) : w.cell? ⟨b, 4, none⟩ = some lv := by simp [World.cell?, h.blk]
theorem Scn.fz (h : Scn b s lv p ln ov opn w) (i : Nat) : w.frozen? ⟨b, i, none⟩ = false := by simp [World.frozen?, h.blk]
theorem Scn.lt (h : Scn b s lv p ln ov opn w) : b < w.heap.size := lt_of_heap h.blk
theorem Scn.drewN (h : Scn b s lv p ln ov opn w) (n : Nat) : Scn b s lv p ln ov opn (w.drewN n) := ⟨h.blk, h.own⟩
theorem Scn.drew (h : Scn b s lv p ln ov opn w) : Scn b s lv p ln ov opn w.drew := ⟨h.blk, h.own⟩
theorem Scn.alloc (h : Scn b s lv p ln ov opn w) (o : Obj) : Scn b s lv p ln ov opn (w.alloc o) :=
  ⟨by rw [Below.heap_alloc _ _ _ h.lt]; exact h.blk, h.own.alloc o⟩
theorem own_ne (h : w.ownsRow (b + 1) 3 1 ov opn.length (opn.map (Value.int .i64))) : ov.ownBlock ≠ some b := by
  intro e
  have := (h.lt b e).1
  omega
theorem heap_setSelf {w : World} {k : Nat} {c : Array Value} {t : TypeId} {fz : Nat × Nat} (h : w.heap[k]? = some (.cells c t fz)) (i : Nat) (u : Value) :
    (w.setCell ⟨k, i, none⟩ u).heap[k]? = some (.cells (c.setIfInBounds i u) t fz) := by
  have hlt := lt_of_heap h
  have h' : w.heap[k] = .cells c t fz := by simpa [Array.getElem?_eq_getElem hlt] using h
  show (w.heap.modify k _)[k]? = _
  rw [Array.getElem?_eq_getElem (by simpa using hlt), Array.getElem_modify_self, h']
  rfl
theorem Scn.setAt (h : Scn b s lv p ln ov opn w) (q : Nat) : Scn b s lv q ln ov opn (w.setCell ⟨b, 1, none⟩ (.int .i64 q)) :=
  ⟨by rw [heap_setSelf h.blk]; rfl, ownsRow_setCell_other h.own (own_ne h.own) _⟩
theorem Scn.setTo (h : Scn b s lv p ln ov opn w) {x : Int} {q : Nat} (e : x = q) : Scn b s lv q ln ov opn (w.setCell ⟨b, 1, none⟩ (.int .i64 x)) := by
  subst e; exact h.setAt q
theorem Scn.setLn (h : Scn b s lv p ln ov opn w) (x : Bool) : Scn b s lv p x ov opn (w.setCell ⟨b, 2, none⟩ (.bool x)) :=
  ⟨by rw [heap_setSelf h.blk]; rfl, ownsRow_setCell_other h.own (own_ne h.own) _⟩
/-- Behind a call that leaves the scanner's block and its row of braces. -/
theorem Scn.kf (h : Scn b s lv p ln ov opn w) {S : Nat → Obj → Prop} {w' : World} (hk : Kf S w w') (h1 : ∀ c, ¬ S b (.cells c 66 (0, 0))) (h2 : ∀ k c, b < k → ¬ S k (.cells c 3 (0, 0))) : Scn b s lv p ln ov opn w' :=
  ⟨hk.block b _ h.blk (h1 _), by
    obtain ⟨g1, g2⟩ := h.own
    refine ⟨g1, ?_⟩
    rcases g2 with g2 | ⟨g, cap, cur, hv, hg, hh, r⟩
    · exact Or.inl g2
    · exact Or.inr ⟨g, cap, cur, hv, hg, hk.block g _ hh (h2 _ _ (by omega)), r⟩⟩
theorem Scn.keep (h : Scn b s lv p ln ov opn w) {w' : World} (hb : Below w.heap.size w w') : Scn b s lv p ln ov opn w' :=
  h.kf (Kf.of_below (fun _ _ => False) hb) (fun _ => id) (fun _ _ _ => id)
theorem Scn.so_sp (h : Scn b s lv p ln ov opn w) {w' : World} (hk : Kf (So b) w w') : Kf (Sp b) w w' :=
  hk.weaken (fun k o ho e => by
    have e : k = b := e
    subst e
    rw [h.blk] at ho
    injection ho with ho
    exact ⟨Nat.le_refl _, by rw [← ho]; simp [Calm]⟩)
end

section
variable {b : Nat} {s : ByteArray} {lv ov : Value} {p : Nat} {ln : Bool} {opn : List Int} {w : World}
theorem Scn.iterAt (h : Scn b s lv p ln ov opn w) {k : Nat} {t : ByteArray} {pos : Nat} (hk : w.heap[k]? = some (.stringIter t pos)) (pos' : Nat) : Scn b s lv p ln ov opn (w.iterAt k t pos') :=
  h.kf (kf_iter hk pos') (fun _ e => by obtain ⟨_, _, e⟩ := e; cases e) (fun _ _ _ e => by obtain ⟨_, _, e⟩ := e; cases e)
end

/-- The Builder at block x (base B) that holds the bytes l. -/
def Bld (B x : Nat) (l : List UInt8) (w : World) : Prop := Lib.IsBuilderF 80 5 B x (Lib.byteCells l) w

section
variable {B x : Nat} {l : List UInt8} {w : World}
theorem Bld.kf (h : Bld B x l w) {S : Nat → Obj → Prop} {w' : World} (hk : Kf S w w') (h1 : ∀ c, ¬ S x (.cells c 80 (0, 0))) (h2 : ∀ k c fz, B ≤ k → ¬ S k (.cells c 5 fz)) : Bld B x l w' := by
  have aux : ∀ p, Lib.BuilderAtF 80 5 B x p (Lib.byteCells l) w → Lib.BuilderAtF 80 5 B x p (Lib.byteCells l) w' := by
    rintro p ⟨hB, v, hb, ⟨g1, g2⟩, hne⟩
    refine ⟨hB, v, hk.block x _ hb (h1 _), ⟨g1, ?_⟩, hne⟩
    rcases g2 with g2 | ⟨g, cap, cur, hi, hv, hg, hh, r⟩
    · exact Or.inl g2
    · exact Or.inr ⟨g, cap, cur, hi, hv, hg, hk.block g _ hh (h2 _ _ _ hg), r⟩
  exact h.elim (fun a => .inl (aux _ a)) (fun a => .inr (aux _ a))
theorem Bld.blk (h : Bld B x l w) : ∃ c, w.heap[x]? = some (.cells c 80 (0, 0)) := by
  rcases h with ⟨_, v, hb, _⟩ | ⟨_, v, hb, _⟩
  · exact ⟨_, hb⟩
  · exact ⟨_, hb⟩
theorem Bld.le (h : Bld B x l w) : B ≤ x ∧ x < w.heap.size := by
  obtain ⟨c, hc⟩ := h.blk
  exact ⟨h.elim (fun a => a.1) (fun a => a.1), lt_of_heap hc⟩
theorem Bld.drewN (h : Bld B x l w) (n : Nat) : Bld B x l (w.drewN n) := h
theorem Bld.keep (h : Bld B x l w) {w' : World} (hb : Below w.heap.size w w') : Bld B x l w' :=
  h.kf (Kf.of_below (fun _ _ => False) hb) (fun _ => id) (fun _ _ _ _ => id)
theorem Bld.alloc (h : Bld B x l w) (o : Obj) : Bld B x l (w.alloc o) := h.keep ((Below.refl _ _).alloc (Nat.le_refl _) o)
theorem Bld.iterAt (h : Bld B x l w) {k : Nat} {t : ByteArray} {pos : Nat} (hk : w.heap[k]? = some (.stringIter t pos)) (pos' : Nat) : Bld B x l (w.iterAt k t pos') :=
  h.kf (kf_iter hk pos') (fun _ e => by obtain ⟨_, _, e⟩ := e; cases e) (fun _ _ _ _ e => by obtain ⟨_, _, e⟩ := e; cases e)
/-- Behind a Builder's method the scanner stands. -/
theorem Scn.wrote {b : Nat} {s : ByteArray} {lv ov : Value} {p : Nat} {ln : Bool} {opn : List Int} (h : Scn b s lv p ln ov opn w) (hB : Bld B x l w) {w' : World} (hk : Lib.OthersKept 5 (some x) w w') : Scn b s lv p ln ov opn w' := by
  obtain ⟨c, hc⟩ := hB.blk
  refine ⟨hk b _ h.blk (fun e => ?_) (fun _ _ e => by injection e with _ e2 _; exact absurd e2 (by decide)), ?_⟩
  · have e : b = x := Option.some.inj e
    subst e; rw [h.blk] at hc; injection hc with hc; injection hc with _ hc _; exact absurd hc (by decide)
  · obtain ⟨g1, g2⟩ := h.own
    refine ⟨g1, ?_⟩
    rcases g2 with g2 | ⟨g, cap, cur, hv, hg, hh, r⟩
    · exact Or.inl g2
    · refine Or.inr ⟨g, cap, cur, hv, hg, hk g _ hh (fun e => ?_) (fun _ _ e => by injection e with _ e2 _; exact absurd e2 (by decide)), r⟩
      have e : g = x := Option.some.inj e
      subst e; rw [hh] at hc; injection hc with hc; injection hc with _ hc _; exact absurd hc (by decide)
/-- The Builder behind a store into the scanner's block. -/
theorem Bld.setScn {b : Nat} {s : ByteArray} {lv ov : Value} {p : Nat} {ln : Bool} {opn : List Int} (hB : Bld B x l w) (h : Scn b s lv p ln ov opn w) (i : Nat) (u : Value) : Bld B x l (w.setCell ⟨b, i, none⟩ u) := by
  refine Bld.kf hB (S := fun k o => k = b ∧ w.heap[b]? = some o) ?_ (fun c e => ?_) (fun k c fz _ e => ?_)
  · exact Kf.set (a := ⟨b, i, none⟩) (Kf.refl _ _) (fun o ho => ⟨rfl, ho⟩) u
  · have := e.2; rw [h.blk] at this; injection this with this; injection this with _ this _; exact absurd this (by decide)
  · have := e.2; rw [h.blk] at this; injection this with this; injection this with _ this _; exact absurd this (by decide)
/-- The Builder behind a method that writes the scanner's block alone. -/
theorem Bld.so {b : Nat} {s : ByteArray} {lv ov : Value} {p : Nat} {ln : Bool} {opn : List Int} (hB : Bld B x l w) (h : Scn b s lv p ln ov opn w) {w' : World} (hk : Kf (So b) w w') : Bld B x l w' := by
  refine Bld.kf hB (S := fun k o => k = b ∧ w.heap[b]? = some o) (hk.weaken fun k o ho e => ?_) (fun c e => ?_) (fun k c fz _ e => ?_)
  · have e : k = b := e
    subst e; exact ⟨rfl, ho⟩
  · have := e.2; rw [h.blk] at this; injection this with this; injection this with _ this _; exact absurd this (by decide)
  · have := e.2; rw [h.blk] at this; injection this with this; injection this with _ this _; exact absurd this (by decide)
theorem so_sx {b : Nat} {w' : World} (hk : Kf (So b) w w') : Kf (Sx b x) w w' := hk.weaken (fun _ _ _ e => Or.inl e)
/-- What a Builder's method leaves alone. -/
theorem kf_builder {b : Nat} {w' : World} (hb : Below x w w') (hk : Lib.OthersKept 5 (some x) w w') : Kf (Sx b x) w w' :=
  ⟨hb.os, hb.tape, hb.output, hb.size, fun k o hko hn => by
    by_cases hx : k < x
    · rw [hb.block k hx]; exact hko
    · exact hk k o hko (fun e => hn (Or.inr (Or.inl (Option.some.inj e)))) (fun c fz e => hn (Or.inr (Or.inr ⟨by omega, c, fz, e⟩)))⟩
end

theorem strExt (s : ByteArray) (p : Nat) : (s.extract p s.size).data.toList = s.data.toList.drop p := by
  rw [ByteArray.data_extract]
  simp only [Array.toList_extract, List.extract_eq_take_drop]
  rw [List.take_of_length_le (by simp)]

end Go.Proofs.YtcgibcjpkhefpaaGreatDoor
namespace Go.Proofs.YtcgibcjpkhefpaaGreatDoor
open Go.RowKit
/-- The decimal at block D: 800 bytes, how many count, the point, two flags. -/
structure Dc (D : Nat) (x : Nat → Nat) (nd : Nat) (dp : Int) (ng tr : Bool) (w : World) : Prop where
  ex : ∃ cs : Array Value, w.heap[D]? = some (.cells cs 213 (0, 0)) ∧ cs.size = 804 ∧ (∀ i, i < 800 → cs[i]? = some (.int .u8 (x i))) ∧ cs[800]? = some (.int .i64 nd) ∧ cs[801]? = some (.int .i64 dp) ∧ cs[802]? = some (.bool ng) ∧ cs[803]? = some (.bool tr)
  nd : nd ≤ 800
section
variable {D : Nat} {x : Nat → Nat} {nd : Nat} {dp : Int} {ng tr : Bool} {w : World}
theorem Dc.lt (h : Dc D x nd dp ng tr w) : D < w.heap.size := by
  obtain ⟨cs, h1, _⟩ := h.ex
  exact lt_of_heap h1
theorem Dc.byte (h : Dc D x nd dp ng tr w) {i : Nat} (hi : i < 800) : w.cell? ⟨D, i, none⟩ = some (.int .u8 (x i)) := by
  obtain ⟨cs, h1, _, h3, _⟩ := h.ex
  simp [World.cell?, h1, h3 i hi]
theorem Dc.c0 (h : Dc D x nd dp ng tr w) : w.cell? ⟨D, 800, none⟩ = some (.int .i64 nd) := by
  obtain ⟨cs, h1, _, _, h3, _⟩ := h.ex
  simp [World.cell?, h1, h3]
theorem Dc.c1 (h : Dc D x nd dp ng tr w) : w.cell? ⟨D, 801, none⟩ = some (.int .i64 dp) := by
  obtain ⟨cs, h1, _, _, _, h3, _⟩ := h.ex
  simp [World.cell?, h1, h3]
theorem Dc.c2 (h : Dc D x nd dp ng tr w) : w.cell? ⟨D, 802, none⟩ = some (.bool ng) := by
  obtain ⟨cs, h1, _, _, _, _, h3, _⟩ := h.ex
  simp [World.cell?, h1, h3]
theorem Dc.c3 (h : Dc D x nd dp ng tr w) : w.cell? ⟨D, 803, none⟩ = some (.bool tr) := by
  obtain ⟨cs, h1, _, _, _, _, _, h3⟩ := h.ex
  simp [World.cell?, h1, h3]
theorem Dc.fz (h : Dc D x nd dp ng tr w) (i : Nat) : w.frozen? ⟨D, i, none⟩ = false := by
  obtain ⟨cs, h1, _⟩ := h.ex
  simp [World.frozen?, h1]
theorem Dc.drewN (h : Dc D x nd dp ng tr w) (n : Nat) : Dc D x nd dp ng tr (w.drewN n) := ⟨h.ex, h.nd⟩
theorem Dc.drew (h : Dc D x nd dp ng tr w) : Dc D x nd dp ng tr w.drew := ⟨h.ex, h.nd⟩
theorem set_cell (cs : Array Value) (k i : Nat) (v : Value) : (cs.setIfInBounds k v)[i]? = if k = i ∧ i < cs.size then some v else cs[i]? := by
  rw [Array.getElem?_setIfInBounds]
  split
  · rename_i h
    subst h
    split <;> simp_all
  · rename_i h
    rw [if_neg (by omega)]
/-- A byte turned. -/
def upd (x : Nat → Nat) (k v : Nat) : Nat → Nat := fun i => if i = k then v else x i
theorem Dc.setByte (h : Dc D x nd dp ng tr w) {k : Nat} (hk : k < 800) (v : Nat) : Dc D (upd x k v) nd dp ng tr (w.setCell ⟨D, k, none⟩ (.int .u8 v)) := by
  obtain ⟨cs, h1, h2, h3, h4, h5, h6, h7⟩ := h.ex
  refine ⟨⟨_, heap_setSelf h1 _ _, by simpa using h2, fun i hi => ?_, ?_, ?_, ?_, ?_⟩, h.nd⟩
  · rw [set_cell]
    by_cases e : k = i
    · subst e; rw [if_pos ⟨rfl, by omega⟩]; simp [upd]
    · rw [if_neg (by omega), h3 i hi]; simp [upd, show ¬ i = k by omega]
  · rw [set_cell, if_neg (by omega), h4]
  · rw [set_cell, if_neg (by omega), h5]
  · rw [set_cell, if_neg (by omega), h6]
  · rw [set_cell, if_neg (by omega), h7]
theorem Dc.setNd (h : Dc D x nd dp ng tr w) {n : Int} {m : Nat} (e : n = m) (hm : m ≤ 800) : Dc D x m dp ng tr (w.setCell ⟨D, 800, none⟩ (.int .i64 n)) := by
  subst e
  obtain ⟨cs, h1, h2, h3, h4, h5, h6, h7⟩ := h.ex
  refine ⟨⟨_, heap_setSelf h1 _ _, by simpa using h2, fun i hi => ?_, ?_, ?_, ?_, ?_⟩, hm⟩
  · rw [set_cell, if_neg (by omega), h3 i hi]
  · rw [set_cell, if_pos (by omega)]
  · rw [set_cell, if_neg (by omega), h5]
  · rw [set_cell, if_neg (by omega), h6]
  · rw [set_cell, if_neg (by omega), h7]
theorem Dc.setDp (h : Dc D x nd dp ng tr w) (n : Int) : Dc D x nd n ng tr (w.setCell ⟨D, 801, none⟩ (.int .i64 n)) := by
  obtain ⟨cs, h1, h2, h3, h4, h5, h6, h7⟩ := h.ex
  refine ⟨⟨_, heap_setSelf h1 _ _, by simpa using h2, fun i hi => ?_, ?_, ?_, ?_, ?_⟩, h.nd⟩
  · rw [set_cell, if_neg (by omega), h3 i hi]
  · rw [set_cell, if_neg (by omega), h4]
  · rw [set_cell, if_pos (by omega)]
  · rw [set_cell, if_neg (by omega), h6]
  · rw [set_cell, if_neg (by omega), h7]
theorem Dc.setNg (h : Dc D x nd dp ng tr w) (n : Bool) : Dc D x nd dp n tr (w.setCell ⟨D, 802, none⟩ (.bool n)) := by
  obtain ⟨cs, h1, h2, h3, h4, h5, h6, h7⟩ := h.ex
  refine ⟨⟨_, heap_setSelf h1 _ _, by simpa using h2, fun i hi => ?_, ?_, ?_, ?_, ?_⟩, h.nd⟩
  · rw [set_cell, if_neg (by omega), h3 i hi]
  · rw [set_cell, if_neg (by omega), h4]
  · rw [set_cell, if_neg (by omega), h5]
  · rw [set_cell, if_pos (by omega)]
  · rw [set_cell, if_neg (by omega), h7]
theorem Dc.setTr (h : Dc D x nd dp ng tr w) (n : Bool) : Dc D x nd dp ng n (w.setCell ⟨D, 803, none⟩ (.bool n)) := by
  obtain ⟨cs, h1, h2, h3, h4, h5, h6, h7⟩ := h.ex
  refine ⟨⟨_, heap_setSelf h1 _ _, by simpa using h2, fun i hi => ?_, ?_, ?_, ?_, ?_⟩, h.nd⟩
  · rw [set_cell, if_neg (by omega), h3 i hi]
  · rw [set_cell, if_neg (by omega), h4]
  · rw [set_cell, if_neg (by omega), h5]
  · rw [set_cell, if_neg (by omega), h6]
  · rw [set_cell, if_pos (by omega)]
/-- How many digits the decimal has. -/
def ndOf (D : Nat) (w : World) : Nat := match w.cell? ⟨D, 800, none⟩ with | some (.int _ n) => n.toNat | _ => 0
theorem Dc.ndOf (h : Dc D x nd dp ng tr w) : ndOf D w = nd := by simp [YtcgibcjpkhefpaaGreatDoor.ndOf, h.c0]
set_option maxHeartbeats 1000000 in
set_option maxRecDepth 100000 in
theorem trim_any (w : World) (h : Dc D x nd dp ng tr w) (_hx : ∀ i, i < 800 → x i < 256) (hnd : 1 ≤ nd) (h0 : x 0 ≠ 48) :
    Calls Tryz.prog 203 #[.pointer (some ⟨D, 0, none⟩)] w fun e w' => e = .returned (.tuple #[]) ∧ Kf (So D) w w' ∧ ∃ n, 1 ≤ n ∧ n ≤ nd ∧ Dc D x n dp ng tr w' := by
  have HS := Lib.hid h
  clear h
  go_enter Tryz.func203, Tryz.ntmps203
  go_wp2
  go_loopw [] (fun wr => ∃ n, 1 ≤ n ∧ n ≤ nd ∧ Dc D x n dp ng tr wr ∧ Kf (So D) w wr) (fun wr => ndOf D wr)
  case atStart => exact ⟨nd, hnd, Nat.le_refl _, HS.out, Kf.refl _ _⟩
  case round =>
    obtain ⟨n, hn1, hn2, hD, hK⟩ := hrel
    have HD := Lib.hid hD
    have hle := hD.nd
    have c0 := hD.c0
    have f0 := hD.fz 800
    have hb := hD.byte (i := n - 1) (by omega)
    have hpos : decide (0 < n) = true := by simp; omega
    have hne : ((n : Int) == 0) = false := by simp; omega
    have hidx : ((n : Int) - 1) = ((n - 1 : Nat) : Int) := by omega
    have HN := Lib.hid (show n = 1 → x (n - 1) ≠ 48 by intro e; subst e; exact h0)
    have HK := Lib.hid hK
    clear hD hK
    by_cases h48 : x (n - 1) = 48
    · have e48 : ((x (n - 1) : Int) == 48) = true := by simp [h48]
      have hn2 : 2 ≤ n := by
        rcases Nat.lt_or_ge n 2 with h | h
        · exact absurd h48 (HN.out (by omega))
        · exact h
      go_wp2
      go_quiet (fail)
      go_wp2
      go_roundw
      case rel => exact ⟨n - 1, by omega, by omega, (HD.out.drewN _).setNd (by omega) (by omega), (HK.out.drewN _).setB 800 _⟩
      case measure =>
        rw [((HD.out.drewN _).setNd (n := ((n - 1 : Nat) : Int)) rfl (by omega)).ndOf, HD.out.ndOf]
        omega
    · have e48 : ((x (n - 1) : Int) == 48) = false := by simp; omega
      go_wp2
      go_quiet (fail)
      go_wp2
      exact bodyPost_end (v := .tuple #[]) (results_none rfl _ _ _) rfl ⟨rfl, HK.out.drewN _, n, hn1, hn2, HD.out.drewN _⟩
end
end Go.Proofs.YtcgibcjpkhefpaaGreatDoor

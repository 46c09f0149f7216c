/-
  A part of the proof: the closure that collects tokens.
  A part of the proof: each: the tokens of a text one by one, as the model tells them.
  A part of the proof: units.Of at a text of bytes below 128.
  A part of the proof: Scan at a text of bytes below 128.
  A part of the proof: a digit's worth.
  A part of the proof: how many digits stand from a place on.
  A part of the proof: the decimal number 1.5 as a text.
  A part of the proof: the value of the text 1.5.
  A part of the proof: digits.Literal at the text 1.5.
  A part of the proof: strconv's special at one text.
  The scanner at a text without comments, the states checked by a reckoning: what next is asked at, in a finite list.
-/
import Derived.Test.YtcgibcjpkhefpaaGreatDoorZJ
import Derived.Test.YtcgibcjpkhefpaaGreatDoorZW16
namespace Go.Proofs.YtcgibcjpkhefpaaGreatDoor
open Go.RowKit
def tokC (t : Lx.Tok) : List Value := [.int .i64 t.tk.kind, .string ⟨t.tk.text.toArray⟩, .string ⟨t.tk.str.toArray⟩, .float .f64 t.tk.num, .int .i64 t.frm, .int .i64 t.till, .bool t.line]
def toksC (acc : List Lx.Tok) : List Value := acc.flatMap tokC
def tokW (t : Lx.Tok) : Value := tokV t.tk t.frm t.till t.line
/-- The captured list of tokens in block c. -/
structure Cap (c : Nat) (acc : List Lx.Tok) (v : Value) (w : World) : Prop where
  blk : w.heap[c]? = some (.cells #[v] 24 (0, 0))
  own : w.ownsRow (c + 1) 31 7 v acc.length (toksC acc)
def IsT (o : Obj) : Prop := ∃ c fz, o = .cells c 31 fz
def St (c : Nat) (v : Value) : Nat → Obj → Prop := fun k o => k = c ∨ (some k = v.ownBlock ∧ c < k ∧ IsT o)
theorem info31 : (Tryz.prog.info? 31).map (fun i => (i.zero, i.size, i.bytes)) = some (some (.agg tok0), 7, 72) := by kernel_rfl
theorem kf_ownT {c : Nat} {w0 w w' : World} {v : Value} {n : Nat} {xs : List Value} (hown : w.ownsRow (c + 1) 31 7 v n xs) (h : w.grownBy w' v.ownBlock) (h0 : Kf (St c v) w0 w) : Kf (St c v) w0 w' := by
  refine h0.trans ((kf_grown h).weaken (fun k o ho e => ?_))
  rcases hown.2 with ⟨hv, _⟩ | ⟨g, cap, cur, hv, hg, hh, _⟩
  · rw [hv] at e; cases e.1
  · rw [hv] at e
    have e1 : k = g := Option.some.inj e.1
    subst e1
    rw [hh] at ho
    injection ho with ho
    exact Or.inr ⟨by rw [hv]; rfl, by omega, _, _, ho.symm⟩
set_option maxHeartbeats 2000000 in
set_option maxRecDepth 100000 in
theorem yield_any {c : Nat} {acc : List Lx.Tok} {v : Value} (w : World) (t : Lx.Tok) (h : Cap c acc v w) (ha : acc.length ≤ 262144) :
    Calls Tryz.prog 24 #[tokW t, .pointer (some ⟨c, 0, none⟩)] w fun e w' => e = .returned (.bool true) ∧ (∃ v', Cap c (acc ++ [t]) v' w') ∧ Kf (St c v) w w' := by
  obtain ⟨fs, hd⟩ : ∃ fs, Tryz.prog.underlying 31 = some (.struct fs) := by
    have := under31
    cases h : Tryz.prog.underlying 31 with
    | none => rw [h] at this; cases this
    | some d => rw [h] at this; cases d <;> first | exact ⟨_, rfl⟩ | cases this
  obtain ⟨hblk, hown⟩ := h
  have hlt := lt_of_heap hblk
  have hcell : ∀ o, (w.alloc o).cell? ⟨c, 0, none⟩ = some v := fun o => by
    have e : (w.alloc o).heap[c]? = some (.cells #[v] 24 (0, 0)) := by rw [Below.heap_alloc _ _ _ hlt]; exact hblk
    simp [World.cell?, e]
  obtain ⟨i0, hi, hz0, hz1, hz2⟩ := info_parts info31
  have HI := Lib.hid (And.intro hi (And.intro hz0 (And.intro hz1 hz2)))
  clear hi hz0 hz1 hz2
  have HT := Lib.hid (show ∀ x y z, tokC x = y → z = y.toArray → z.toList = tokC x from fun _ _ _ h1 h2 => by rw [h2, h1])
  change Calls Tryz.prog 24 #[.agg #[.int .i64 t.tk.kind, .string ⟨t.tk.text.toArray⟩, .string ⟨t.tk.str.toArray⟩, .float .f64 t.tk.num, .int .i64 t.frm, .int .i64 t.till, .bool t.line], .pointer (some ⟨c, 0, none⟩)] w _
  go_enter Tryz.func24, Tryz.ntmps24
  go_wp2_with (at_builtin; refine wpList_append_own _ rfl _ _ 24 rfl (c + 1) 31 i0 (.agg tok0) 7 72 Tryz.underlying24 HI.out.1 HI.out.2.1 HI.out.2.2.1 HI.out.2.2.2 rfl (by decide) _ _ _ rfl ((hown.alloc _).alloc _) ⟨w.heap.size + 1, 0, none⟩ 1 1 (tokC t) rfl rfl ?c1 ?c2 ?c3 ?c4 ?c5 ?_)
  case c1 =>
    intro j u hj
    have hadd : (⟨w.heap.size + 1, 0, none⟩ : Addr).add j = ⟨w.heap.size + 1, j, none⟩ := by unfold Addr.add; split <;> simp_all
    rw [hadd]
    have hn := heap_alloc_new (w.alloc (.cells #[.int .i64 t.tk.kind, .string ⟨t.tk.text.toArray⟩, .string ⟨t.tk.str.toArray⟩, .float .f64 t.tk.num, .int .i64 t.frm, .int .i64 t.till, .bool t.line] 31)) (.cells #[.int .i64 t.tk.kind, .string ⟨t.tk.text.toArray⟩, .string ⟨t.tk.str.toArray⟩, .float .f64 t.tk.num, .int .i64 t.frm, .int .i64 t.till, .bool t.line] 31)
    have hsz : ∀ o, (w.alloc o).heap.size = w.heap.size + 1 := fun o => by simp
    rw [hsz] at hn
    rw [cellN hn j, ← hj]
    show (tokC t).toArray[j]? = (tokC t)[j]?
    simp
  case c2 => intro u hu; simp [tokC] at hu; rcases hu with rfl | rfl | rfl | rfl | rfl | rfl | rfl <;> rfl
  case c3 => unfold maxLen; omega
  case c4 => omega
  case c5 => simp; omega
  intro v' w2 hown' hgrow _
  have HX := Lib.hid hown'
  have HKF := Lib.hid (kf_ownT (w0 := w) ((hown.alloc _).alloc _) hgrow (((Kf.refl _ _).alloc _).alloc _))
  have hb2 : w2.heap[c]? = some (.cells #[v] 24 (0, 0)) := by
    refine (kf_grown hgrow).block c _ ?_ (fun e => ?_)
    · rw [Below.heap_alloc _ _ _ (by simp; omega), Below.heap_alloc _ _ _ hlt]; exact hblk
    · have := (hown.lt c e.1.symm).1
      omega
  clear hown' hgrow
  have k3 : w2.cell? ⟨c, 0, none⟩ = some v := by simp [World.cell?, hb2]
  have g3 : w2.frozen? ⟨c, 0, none⟩ = false := by simp [World.frozen?, hb2]
  obtain ⟨g, cap, rfl⟩ : ∃ g cap, v' = .slice (some ⟨g, 0, none⟩) (acc.length + 1) cap := by
    rcases HX.out.2 with ⟨_, h0⟩ | ⟨g, cap, cur, hv, _⟩
    · omega
    · exact ⟨g, cap, hv⟩
  go_wp2_with fail
  have FIN : (e : Ending) → e = .returned (.bool true) → e = .returned (.bool true) ∧ (∃ v', Cap c (acc ++ [t]) v' (w2.setCell ⟨c, 0, none⟩ (.slice (some ⟨g, 0, none⟩) (acc.length + 1) cap))) ∧ Kf (St c v) w (w2.setCell ⟨c, 0, none⟩ (.slice (some ⟨g, 0, none⟩) (acc.length + 1) cap)) := by
    intro e he
    refine ⟨he, ⟨.slice (some ⟨g, 0, none⟩) (acc.length + 1) cap, ?_, ?_⟩, Kf.set (a := ⟨c, 0, none⟩) HKF.out (fun _ _ => Or.inl rfl) _⟩
    · rw [heap_setSelf hb2]; rfl
    · have := ownsRow_setCell_other HX.out (a := ⟨c, 0, none⟩) (by
        intro e
        injection e with e
        have := (HX.out.lt g rfl).1
        simp at e; omega) (.slice (some ⟨g, 0, none⟩) (acc.length + 1) cap)
      simpa [toksC] using this
  exact bodyPost_ret (v := .bool true) (by simp [results, Tryz.results24]) rfl (FIN _ rfl)
theorem Cap.kf {c : Nat} {acc : List Lx.Tok} {v : Value} {w w' : World} {S : Nat → Obj → Prop} (h : Cap c acc v w) (hk : Kf S w w') (h1 : ¬ S c (.cells #[v] 24 (0, 0))) (h2 : ∀ k c', c < k → ¬ S k (.cells c' 31 (0, 0))) : Cap c acc v w' :=
  ⟨hk.block c _ h.blk h1, by
    obtain ⟨g1, g2⟩ := h.own
    refine ⟨g1, ?_⟩
    rcases g2 with g2 | ⟨g, cap, cur, hv, hg, hh, r⟩
    · exact Or.inl g2
    · exact Or.inr ⟨g, cap, cur, hv, hg, hk.block g _ hh (h2 _ _ (by omega)), r⟩⟩
theorem Cap.lt {c : Nat} {acc : List Lx.Tok} {v : Value} {w : World} (h : Cap c acc v w) : ∀ k, v.ownBlock = some k → c + 1 ≤ k ∧ k < w.heap.size := h.own.lt
end Go.Proofs.YtcgibcjpkhefpaaGreatDoor
namespace Go.Proofs.YtcgibcjpkhefpaaGreatDoor
open Go.RowKit
/-- What holds at each state that next is asked at. -/
structure RunOk (E : Lx.Env) (s : ByteArray) (V : Nat → Prop) (R : Nat → List Int → Prop) : Prop where
  v : ∀ p opn, R p opn → V p ∧ p ≤ s.size ∧ OpnOk opn p
  sk : ∀ p opn, R p opn → ∀ q l2, Lx.skip E s.data.toList (s.data.toList.length - p) p false = .ok (q, l2) → V q ∧ p ≤ q ∧ q ≤ s.size
  st : ∀ p opn t r opn', R p opn → Lx.next E s.data.toList p opn = .ok (t, r, opn') → t.tk.kind ≠ 0 → R r opn' ∧ p < r
  z : R 0 []
def EachPost (E : Lx.Env) (c : Nat) (s : ByteArray) (w : World) (e : Ending) (w' : World) : Prop :=
  Kf (fun k _ => c ≤ k) w w' ∧ match Lx.scan E s.data.toList with
    | .ok ts => e = .returned (.tuple #[.int .i64 0, .int .i64 0]) ∧ ∃ v, Cap c ts v w'
    | .error a => e = .returned (.tuple #[.int .i64 a, .int .i64 50])
theorem fields_call (t : ByteArray) (ht : Lib.fields t.data.toList = Lx.signs ∧ t.size < 4294967281 ∧ ∀ b ∈ t.data.toList, b.toNat < 128) (w : World) (htab : Lib.TabIs Tryz.prog w "strings.asciiSpace" .u8 Lib.asciiSpaceTab) :
    Calls Tryz.prog 34 #[.string t] w fun e w' => e = .returned (.slice (some ⟨w.heap.size, 0, none⟩) Lx.signs.length Lx.signs.length) ∧ w' = w.alloc (.cells signCells 9) := by
  obtain ⟨h1, h2, h3⟩ := ht
  refine (Tryz.strings_Fields_laid t w h2 (fun j b hb => h3 b (List.mem_of_getElem? hb)) htab).mono ?_
  rintro e w' ⟨rfl, rfl⟩
  rw [h1]
  exact ⟨rfl, rfl⟩
theorem two_cells {w : World} {n : Nat} {x y : Value} (h1 : w.heap[n]? = some (.cells #[x] 3 (0, 0))) (h2 : w.heap[n + 1]? = some (.cells #[y] 25 (0, 0))) (u v : Value) :
    w.cell? ⟨n, 0, none⟩ = some x ∧ w.frozen? ⟨n, 0, none⟩ = false ∧ (w.setCell ⟨n, 0, none⟩ u).cell? ⟨n + 1, 0, none⟩ = some y ∧ (w.setCell ⟨n, 0, none⟩ u).frozen? ⟨n + 1, 0, none⟩ = false ∧ ((w.setCell ⟨n, 0, none⟩ u).setCell ⟨n + 1, 0, none⟩ v).cell? ⟨n, 0, none⟩ = some u ∧ ((w.setCell ⟨n, 0, none⟩ u).setCell ⟨n + 1, 0, none⟩ v).cell? ⟨n + 1, 0, none⟩ = some v := by
  have a1 : (w.setCell ⟨n, 0, none⟩ u).heap[n]? = some (.cells #[u] 3 (0, 0)) := by rw [heap_setSelf h1]; rfl
  have a2 : (w.setCell ⟨n, 0, none⟩ u).heap[n + 1]? = some (.cells #[y] 25 (0, 0)) := by rw [Below.heap_setCell _ _ _ _ (by simp)]; exact h2
  have b1 : ((w.setCell ⟨n, 0, none⟩ u).setCell ⟨n + 1, 0, none⟩ v).heap[n]? = some (.cells #[u] 3 (0, 0)) := by rw [Below.heap_setCell _ _ _ _ (by simp)]; exact a1
  have b2 : ((w.setCell ⟨n, 0, none⟩ u).setCell ⟨n + 1, 0, none⟩ v).heap[n + 1]? = some (.cells #[v] 25 (0, 0)) := by rw [heap_setSelf a2]; rfl
  exact ⟨by simp [World.cell?, h1], by simp [World.frozen?, h1], by simp [World.cell?, a2], by simp [World.frozen?, a2], by simp [World.cell?, b1], by simp [World.cell?, b2]⟩
theorem four_allocs (w : World) (A B C D : Obj) : ((((w.alloc A).alloc B).alloc C).alloc D).heap[w.heap.size]? = some A ∧ ((((w.alloc A).alloc B).alloc C).alloc D).heap[w.heap.size + 1]? = some B ∧ ((((w.alloc A).alloc B).alloc C).alloc D).heap[w.heap.size + 1 + 1]? = some C ∧ ((((w.alloc A).alloc B).alloc C).alloc D).heap[w.heap.size + 1 + 1 + 1]? = some D := by
  have z : ∀ (w : World) (o : Obj), (w.alloc o).heap.size = w.heap.size + 1 := fun w o => by simp
  have h1 := heap_alloc_new w A
  have h2 := heap_alloc_new (w.alloc A) B
  have h3 := heap_alloc_new ((w.alloc A).alloc B) C
  have h4 := heap_alloc_new (((w.alloc A).alloc B).alloc C) D
  rw [z] at h2
  rw [z, z] at h3
  rw [z, z, z] at h4
  refine ⟨?_, ?_, ?_, h4⟩
  · rw [Below.heap_alloc _ _ _ (by simp only [z]; omega), Below.heap_alloc _ _ _ (by simp only [z]; omega), Below.heap_alloc _ _ _ (by simp only [z]; omega)]; exact h1
  · rw [Below.heap_alloc _ _ _ (by simp only [z]; omega), Below.heap_alloc _ _ _ (by simp only [z]; omega)]; exact h2
  · rw [Below.heap_alloc _ _ _ (by simp only [z]; omega)]; exact h3
theorem Cap.setCell {c : Nat} {acc : List Lx.Tok} {v : Value} {w : World} (h : Cap c acc v w) {k : Nat} {cs : Array Value} {T : TypeId} (hk : w.heap[k]? = some (.cells cs T (0, 0))) (hT : T ≠ 31) (hkc : k ≠ c) (u : Value) : Cap c acc v (w.setCell ⟨k, 0, none⟩ u) :=
  h.kf (S := fun j o => j = k ∧ w.heap[k]? = some o) (Kf.set (a := ⟨k, 0, none⟩) (Kf.refl _ _) (fun o ho => ⟨rfl, ho⟩) _) (fun e => hkc e.1.symm) (fun _ _ _ e => by
    have e := e.2; rw [hk] at e; injection e with e; injection e with _ e _; exact hT e)
/-- The loop's own relation. -/
structure EachRel (E : Lx.Env) (s : ByteArray) (R : Nat → List Int → Prop) (c n : Nat) (w wr : World) (f p : Nat) (ln : Bool) (opn : List Int) (acc : List Lx.Tok) (ov v' : Value) : Prop where
  fu : s.size < f + p
  al : acc.length ≤ p
  r : R p opn
  scn : Scn (n + 1 + 1 + 1) s (.slice (some ⟨n + 1 + 1, 0, none⟩) Lx.signs.length Lx.signs.length) p ln ov opn wr
  cap : Cap c acc v' wr
  kf : Kf (fun k _ => c ≤ k) w wr
  g : wr.heap[n + 1 + 1]? = some (.cells signCells 9 (0, 0))
  pa : wr.heap[n]? = some (.cells #[.int .i64 0] 3 (0, 0))
  pe : wr.heap[n + 1]? = some (.cells #[.int .i64 0] 25 (0, 0))
  eq : Lx.toks E s.data.toList f p opn acc = Lx.scan E s.data.toList
set_option maxHeartbeats 4000000 in
set_option maxRecDepth 100000 in
theorem each_any (E : Lx.Env) (s : ByteArray) (V : Nat → Prop) (R : Nat → List Int → Prop) (w0 w : World) (c : Nat) (v : Value) (hR : RunOk E s V R) (hCM : CmOk E s V) (hVS : VSkip E s.data.toList V) (hLO : LitOk E s V w0) (hM : MaxOk w0)
    (hG : Below w0.heap.size w0 w) (hc0 : w0.heap.size ≤ c) (hs : s.size ≤ 262144) (htab : ∀ w, Below w0.heap.size w0 w → Lib.TabIs Tryz.prog w "strings.asciiSpace" .u8 Lib.asciiSpaceTab) (hC : Cap c [] v w) :
    Calls Tryz.prog 23 #[.string s, .func (.func 24) #[] #[.pointer (some ⟨c, 0, none⟩)]] w (EachPost E c s w) := by
  obtain ⟨fs, hd⟩ : ∃ fs, Tryz.prog.underlying 31 = some (.struct fs) := by
    have := under31
    cases h : Tryz.prog.underlying 31 with
    | none => rw [h] at this; cases this
    | some d => rw [h] at this; cases d <;> first | exact ⟨_, rfl⟩ | cases this
  have hcn : c < w.heap.size := lt_of_heap hC.blk
  have hmf : ∀ (fn : Fn) (first cap : Array Value) (w : World), (Instr.makeFunc fn first cap).run Tryz.prog w = .ok (.func fn first cap) w := fun _ _ _ _ => rfl
  go_enter_defers Tryz.func23, Tryz.ntmps23
  go_wp2_with fail
  refine (fields_call _ (by decide +kernel) _ (htab _ ((hG.alloc (by have := hG.size; omega) _).alloc (by have := hG.size; simp; omega) _))).mono ?_
  rintro e w1 ⟨rfl, rfl⟩
  go_wp2
  go_loopw [] (fun wr => ∃ (f p : Nat) (ln : Bool) (opn : List Int) (acc : List Lx.Tok) (ov v' : Value), EachRel E s R c w.heap.size w wr f p ln opn acc ov v') (fun wr => s.size - posOf (w.heap.size + 1 + 1 + 1) wr)
  case atStart =>
    refine ⟨s.size + 1, 0, false, [], [], .slice none 0 0, v, by omega, by simp, hR.z, ?_, ?_, ?_, ?_, ?_, ?_, by simp [Lx.scan]⟩
    · obtain ⟨q1, q2, q3, q4⟩ := four_allocs w (.cells #[.int .i64 0] 3) (.cells #[.int .i64 0] 25) (.cells signCells 9) (.cells #[.string s, .int .i64 0, .bool false, .slice none 0 0, .slice (some ⟨w.heap.size + 1 + 1, 0, none⟩) Lx.signs.length Lx.signs.length] 66)
      exact ⟨q4, ⟨by simp, Or.inl ⟨rfl, rfl⟩⟩⟩
    · exact hC.kf (S := fun _ _ => False) (((((Kf.refl _ _).alloc _).alloc _).alloc _).alloc _) (fun h => h) (fun _ _ _ h => h)
    · exact ((((Kf.refl _ _).alloc _).alloc _).alloc _).alloc _
    · exact (four_allocs _ _ _ _ _).2.2.1
    · exact (four_allocs _ _ _ _ _).1
    · exact (four_allocs _ _ _ _ _).2.1
  case round =>
    obtain ⟨f, p, ln, opn, acc, ov, v', hrel⟩ := hrel
    have HRL := Lib.hid hrel
    have hv := hR.v _ _ hrel.r
    have hpos := posOf_scn hrel.scn
    have HP1 := Lib.hid hpos
    have hfu := hrel.fu
    have hal := hrel.al
    obtain ⟨f', rfl⟩ : ∃ f', f = f' + 1 := ⟨f - 1, by omega⟩
    have HG := Lib.hid (hG.trans (hrel.kf.below (Nat.le_of_lt (by omega)) (fun _ _ h => by omega)))
    have HSK := Lib.hid (hR.sk _ _ hrel.r)
    have HST := Lib.hid (hR.st p opn)
    clear hrel hpos
    go_wp2_with fail
    refine (next_any E V w0 wr hCM hVS hLO hM hv.1 HSK.out HG.out (by have := hG.size; omega) hs hv.2.1 hv.2.2 HRL.out.scn ⟨rfl, by omega, HRL.out.g⟩).mono ?_
    rintro e w1 ⟨hK1, hP⟩
    have hEQ := HRL.out.eq
    rw [Lx.toks] at hEQ
    have hb1 := HRL.out.scn.lt
    have HKW := Lib.hid (HRL.out.kf.trans (hK1.weaken (fun k _ _ h => Nat.le_trans (by omega) h.1)))
    have hpa1 : w1.heap[w.heap.size]? = some (.cells #[.int .i64 0] 3 (0, 0)) := hK1.block _ _ HRL.out.pa (fun h => by have := h.1; omega)
    have hpe1 : w1.heap[w.heap.size + 1]? = some (.cells #[.int .i64 0] 25 (0, 0)) := hK1.block _ _ HRL.out.pe (fun h => by have := h.1; omega)
    have hg1 : w1.heap[w.heap.size + 1 + 1]? = some (.cells signCells 9 (0, 0)) := hK1.block _ _ HRL.out.g (fun h => by have := h.1; omega)
    have hsz1 := hK1.size
    cases hnx : Lx.next E s.data.toList p opn with
    | error a =>
      rw [hnx] at hP hEQ
      subst hP
      have HEQ := Lib.hid hEQ
      clear hEQ
      unfold wrongAt
      refine leaves_cons (f := 33) (args := #[.pointer (some ⟨w.heap.size, 0, none⟩), .pointer (some ⟨w.heap.size + 1, 0, none⟩)]) (by simp) (by simp [go_sem]) ?_
      have hm1 : (w1.alloc (.cells #[.int .i64 a] 62)).heap[w.heap.size]? = some (.cells #[.int .i64 0] 3 (0, 0)) := by rw [Below.heap_alloc _ _ _ (by omega)]; exact hpa1
      have hm2 : (w1.alloc (.cells #[.int .i64 a] 62)).heap[w.heap.size + 1]? = some (.cells #[.int .i64 0] 25 (0, 0)) := by rw [Below.heap_alloc _ _ _ (by omega)]; exact hpe1
      obtain ⟨t1, t2, t3, t4, t5, t6⟩ := two_cells hm1 hm2 (.int .i64 a) (.int .i64 50)
      refine (catch_panicking ⟨w.heap.size, 0, none⟩ ⟨w.heap.size + 1, 0, none⟩ a [] w1 (.int .i64 0) (.int .i64 0) t1 t2 t3 t4).mono ?_
      rintro e u' w2 ⟨rfl, rfl, rfl⟩
      refine ⟨.tuple #[.int .i64 a, .int .i64 50], ?_, ?_, ?_⟩
      · simp [results, Tryz.results23, go_sem, t5, t6]
      · exact ((HKW.out.alloc _).set (a := ⟨w.heap.size, 0, none⟩) (fun _ _ => by simp only; omega) _).set (a := ⟨w.heap.size + 1, 0, none⟩) (fun _ _ => by simp only; omega) _
      · rw [← HEQ.out]
    | ok r =>
      obtain ⟨t, q, opn'⟩ := r
      rw [hnx] at hP hEQ
      obtain ⟨ov1, he, hS1⟩ := hP
      subst he
      have HS1 := Lib.hid hS1
      have HEQ := Lib.hid hEQ
      clear hS1 hEQ
      have HR := Lib.hid (heap_alloc_new w1 (.cells tok0 31))
      have HROW := Lib.hid (setRow_heap (w1.alloc (.cells tok0 31)) w1.heap.size _ #[.int .i64 t.tk.kind, .string ⟨t.tk.text.toArray⟩, .string ⟨t.tk.str.toArray⟩, .float .f64 t.tk.num, .int .i64 t.frm, .int .i64 t.till, .bool t.line] 31 (0, 0) HR.out)
      go_wp2_with (first | (refine wpList_store_row rfl 31 (.tmp 7) (.tmp 14) rfl w1.heap.size #[.int .i64 t.tk.kind, .string ⟨t.tk.text.toArray⟩, .string ⟨t.tk.str.toArray⟩, .float .f64 t.tk.num, .int .i64 t.frm, .int .i64 t.till, .bool t.line] rfl rfl 31 tok0 HR.out size31 rfl (tok_one _ _ _ _ _ _ _) ?_) | (refine wpList_load_row rfl 31 (.tmp 7) rfl w1.heap.size rfl 31 _ (0, 0) (.struct fs) HROW.out hd rfl size31 ?_))
      have HK2 := Lib.hid (show Kf (Sp (w.heap.size + 1 + 1 + 1)) wr ((w1.alloc (.cells tok0 31)).setRow w1.heap.size #[.int .i64 t.tk.kind, .string ⟨t.tk.text.toArray⟩, .string ⟨t.tk.str.toArray⟩, .float .f64 t.tk.num, .int .i64 t.frm, .int .i64 t.till, .bool t.line]) from hK1.trans (((Kf.refl _ _).alloc _).setRowNew (Nat.le_refl _) _))
      have HC2 := Lib.hid (HRL.out.cap.kf HK2.out (fun h => by have := h.1; omega) (fun _ _ _ h => h.2 (by simp [Calm])))
      have HS2 := Lib.hid ((HS1.out.alloc (.cells tok0 31)).setRow HR.out #[.int .i64 t.tk.kind, .string ⟨t.tk.text.toArray⟩, .string ⟨t.tk.str.toArray⟩, .float .f64 t.tk.num, .int .i64 t.frm, .int .i64 t.till, .bool t.line])
      go_wp2_with fail
      refine (yield_any _ t HC2.out (by omega)).mono ?_
      rintro e w3 ⟨rfl, ⟨v3, hC3⟩, hK3⟩
      have hrow3 : w3.heap[w1.heap.size]? = _ := hK3.block _ _ HROW.out (fun h => by
        rcases h with h | h
        · omega
        · have := (HRL.out.cap.lt _ h.1.symm).2; have := HRL.out.scn.lt; omega)
      have HK3 := Lib.hid hK3
      have HC3 := Lib.hid hC3
      have k0 : w3.cell? ⟨w1.heap.size, 0, none⟩ = some (.int .i64 t.tk.kind) := by rw [cellN hrow3 0]; rfl
      have hpa3 : w3.heap[w.heap.size]? = some (.cells #[.int .i64 0] 3 (0, 0)) := hK3.block _ _ (HK2.out.block _ _ HRL.out.pa (fun h => by have := h.1; omega)) (fun h => by
        rcases h with h | ⟨_, _, _, _, h⟩
        · omega
        · injection h with _ h _; exact absurd h (by decide))
      have hpe3 : w3.heap[w.heap.size + 1]? = some (.cells #[.int .i64 0] 25 (0, 0)) := hK3.block _ _ (HK2.out.block _ _ HRL.out.pe (fun h => by have := h.1; omega)) (fun h => by
        rcases h with h | ⟨_, _, _, _, h⟩
        · omega
        · injection h with _ h _; exact absurd h (by decide))
      have HKX := Lib.hid ((HRL.out.kf.trans (HK2.out.weaken (fun k _ _ h => Nat.le_trans (by omega) h.1))).trans (HK3.out.weaken (S' := fun k _ => c ≤ k) (fun k _ _ h => by
        rcases h with h | ⟨_, h, _⟩ <;> omega)))
      clear hK3 hC3 hrow3
      by_cases hk0 : t.tk.kind = 0
      · have hkb : ((t.tk.kind : Int) == 0) = true := by simp [hk0]
        obtain ⟨t1, t2, t3, t4, t5, t6⟩ := two_cells hpa3 hpe3 (.int .i64 0) (.int .i64 0)
        go_wp2_with fail
        refine leaves_cons (f := 33) (args := #[.pointer (some ⟨w.heap.size, 0, none⟩), .pointer (some ⟨w.heap.size + 1, 0, none⟩)]) (by simp) (by simp [go_sem]) ?_
        refine (catch_idle ⟨w.heap.size, 0, none⟩ ⟨w.heap.size + 1, 0, none⟩ _).mono ?_
        rintro e u' w4 ⟨rfl, rfl, rfl⟩
        refine ⟨.tuple #[.int .i64 0, .int .i64 0], ?_, ?_, ?_⟩
        · simp [results, Tryz.results23, go_sem, t5, t6]
        · exact (HKX.out.set (a := ⟨w.heap.size, 0, none⟩) (fun _ _ => by simp only; omega) _).set (a := ⟨w.heap.size + 1, 0, none⟩) (fun _ _ => by simp only; omega) _
        · rw [← HEQ.out]
          simp only [hk0, if_true]
          refine ⟨trivial, v3, (HC3.out.setCell hpa3 (by decide) (by omega) _).setCell (k := w.heap.size + 1) (cs := #[.int .i64 0]) (T := 25) ?_ (by decide) (by omega) _⟩
          rw [Below.heap_setCell _ _ _ _ (by simp)]; exact hpe3
      · have hkb : ((t.tk.kind : Int) == 0) = false := by simp [hk0]
        go_wp2_with fail
        obtain ⟨hRq, hpq⟩ := HST.out t q opn' HRL.out.r hnx hk0
        have hvq := hR.v _ _ hRq
        have hS3 : Scn (w.heap.size + 1 + 1 + 1) s (.slice (some ⟨w.heap.size + 1 + 1, 0, none⟩) Lx.signs.length Lx.signs.length) q t.line ov1 opn' w3 := HS2.out.kf HK3.out (fun _ h => by
          rcases h with h | ⟨_, _, _, _, h⟩
          · omega
          · injection h with _ h _; exact absurd h (by decide)) (fun _ _ _ h => by
          rcases h with h | ⟨_, _, _, _, h⟩
          · omega
          · injection h with _ h _; exact absurd h (by decide))
        refine ⟨⟨f', q, t.line, opn', acc ++ [t], ov1, v3, by omega, by simp; omega, hRq, hS3, HC3.out, HKX.out, ?_, hpa3, hpe3, ?_⟩, ?_⟩
        · exact HK3.out.block _ _ (HK2.out.block _ _ HRL.out.g (fun h => by have := h.1; omega)) (fun h => by
            rcases h with h | ⟨_, _, _, _, h⟩
            · omega
            · injection h with _ h _; exact absurd h (by decide))
        · rw [← HEQ.out]
          simp only [hk0, if_false]
        · rw [posOf_scn hS3, HP1.out]; have := hv.2.1; omega
end Go.Proofs.YtcgibcjpkhefpaaGreatDoor
namespace Go.Proofs.YtcgibcjpkhefpaaGreatDoor
open Go.RowKit
theorem dec_ascii (s : ByteArray) (pos : Nat) (h : pos < s.size) (ha : ∀ b ∈ s.data.toList, b.toNat < 128) : ∃ r, Utf8.decode s pos = (r, 1) ∧ r < 128 := by
  have hb : (s.get! pos).toNat < 128 := by
    have e : s.get! pos = s.data[pos]'h := by
      simp only [ByteArray.get!]
      exact getElem!_pos s.data pos h
    rw [e]
    exact ha _ (by simp)
  refine ⟨(s.get! pos).toNat, ?_, hb⟩
  unfold Utf8.decode
  simp [hb]
set_option maxHeartbeats 4000000 in
set_option maxRecDepth 100000 in
theorem units_ascii (s : ByteArray) (w : World) (ha : ∀ b ∈ s.data.toList, b.toNat < 128) (hs : s.size ≤ 262144) :
    Calls Tryz.prog 32 #[.string s] w fun e w' => (∃ X, e = .returned (.tuple #[.string X, .int .i64 0, .int .i64 0])) ∧ Below w.heap.size w w' := by
  have hdec := fun pos h => dec_ascii s pos h ha
  go_enter Tryz.func32, Tryz.ntmps32
  go_wp2
  go_loopw [] (fun wr => ∃ (q : Nat) (l : List UInt8), q ≤ s.size ∧ l.length ≤ 4 * q ∧ wr.heap[w.heap.size + 1]? = some (.stringIter s q) ∧ Bld w.heap.size w.heap.size l wr ∧ Below w.heap.size w wr) (fun wr => s.size - wr.iterPos (w.heap.size + 1))
  case atStart =>
    refine ⟨0, [], by omega, by simp, ?_, (bld_fresh w).alloc _, ((Below.refl _ _).alloc (Nat.le_refl _) _).alloc (by simp) _⟩
    have h2 := heap_alloc_new (w.alloc (.cells #[.pointer none, .slice none 0 0] 80)) (.stringIter s 0)
    rw [show (w.alloc (.cells #[.pointer none, .slice none 0 0] 80)).heap.size = w.heap.size + 1 by simp] at h2
    exact h2
  case round =>
    obtain ⟨q, l, hq, hl, hit, hB, hW⟩ := hrel
    have HM := Lib.hid (show wr.iterPos (w.heap.size + 1) = q by simp only [World.iterPos, hit])
    by_cases hlt : q < s.size
    · obtain ⟨r, hr, hr1⟩ := hdec q hlt
      have hnx : ∀ ty, (Instr.next (.pointer (some ⟨w.heap.size + 1, 0, none⟩)) true ty).run Tryz.prog wr = _ := fun ty => Lib.run_next_any_at wr (w.heap.size + 1) s q ty hit hlt
      rw [hr] at hnx
      simp only at hnx
      have HB1 := Lib.hid (hB.iterAt hit (q + 1))
      have HI1 := Lib.hid (Lib.iterAt_heap wr (w.heap.size + 1) s q (q + 1) hit)
      clear hB hit
      have h65 : ((r : Int) == 65533) = false := by simp; omega
      go_wp2_with fail
      refine (point_any (r : Int) (by omega) (by omega) _).mono ?_
      rintro e w1 ⟨rfl, hb⟩
      rw [Int.toNat_natCast]
      have HB2 := Lib.hid (HB1.out.keep hb)
      have HI2 := Lib.hid ((hb.block _ (lt_of_heap HI1.out)).trans HI1.out)
      go_wp2_with fail
      refine (bld_str _ HB2.out (by have := Lx.pointB_len r; simp [ByteArray.size]; omega)).mono ?_
      rintro e w2 ⟨rfl, hW2⟩
      have HW := Lib.hid hW2
      go_wp2_with fail
      go_roundw
      case rel =>
        refine ⟨q + 1, l ++ Lx.pointB r, by omega, ?_, HW.out.2.2.iter HI2.out (by omega), by simpa using HW.out.1, ?_⟩
        · have := Lx.pointB_len r
          simp; omega
        · refine Below.trans ?_ HW.out.2.1
          refine Below.trans ?_ (hb.mono ?_)
          · exact ((Kf.of_below (fun _ _ => False) hW).iterNew (by omega) s (q + 1)).below (Nat.le_refl _) (fun _ _ h => h.elim)
          · rw [Lib.iterAt_size]; exact hW.size
      case measure =>
        rw [HM.out]
        simp only [World.iterPos, HW.out.2.2.iter HI2.out (show w.heap.size + 1 ≠ w.heap.size by omega)]
        omega
    · have hnx : ∀ ty, (Instr.next (.pointer (some ⟨w.heap.size + 1, 0, none⟩)) true ty).run Tryz.prog wr = _ := fun ty => Lib.run_next_end_at wr (w.heap.size + 1) s q ty hit (by omega)
      go_wp2_with fail
      refine (bld_end hB).mono ?_
      rintro e w2 ⟨rfl, hW2⟩
      go_wp2
      exact bodyPost_ret (v := .tuple #[.string ⟨l.toArray⟩, .int .i64 0, .int .i64 0]) (by simp [results, Tryz.results32]) rfl ⟨⟨_, rfl⟩, hW.trans hW2.2.1⟩
end Go.Proofs.YtcgibcjpkhefpaaGreatDoor
namespace Go.Proofs.YtcgibcjpkhefpaaGreatDoor
open Go.RowKit
set_option maxHeartbeats 4000000 in
set_option maxRecDepth 100000 in
theorem may_ascii (s : ByteArray) (w : World) (ha : ∀ b ∈ s.data.toList, b.toNat < 128) (hs : s.size ≤ 262144) :
    Calls Tryz.prog 22 #[.string s] w fun e w' => e = .returned (.tuple #[.int .i64 0, .int .i64 0]) ∧ Below w.heap.size w w' := by
  have hg : ((s.size : Int) > 262144) = False := by simp; omega
  have hg2 : decide (262144 < s.size) = false := by simp; omega
  go_enter Tryz.func22, Tryz.ntmps22
  go_wp2_with fail
  refine (units_ascii s _ ha hs).mono ?_
  rintro e w1 ⟨⟨X, rfl⟩, hb⟩
  go_wp2
  exact bodyPost_ret (v := .tuple #[.int .i64 0, .int .i64 0]) (by simp [results, Tryz.results22]) rfl ⟨rfl, hb⟩
theorem own_le {w : World} {base base' size n : Nat} {e : TypeId} {v : Value} {xs : List Value} (h : w.ownsRow base e size v n xs) (hb : base' ≤ base) : w.ownsRow base' e size v n xs := by
  obtain ⟨g1, g2⟩ := h
  refine ⟨g1, ?_⟩
  rcases g2 with g2 | ⟨g, cap, cur, hv, hg, r⟩
  · exact Or.inl g2
  · exact Or.inr ⟨g, cap, cur, hv, Nat.le_trans hb hg, r⟩
/-- Behind Scan. -/
def ScanPost (E : Lx.Env) (s : ByteArray) (w : World) (e : Ending) (w' : World) : Prop :=
  Below w.heap.size w w' ∧ match Lx.scan E s.data.toList with
    | .ok ts => ∃ v, e = .returned (.tuple #[v, .int .i64 0, .int .i64 0]) ∧ w'.ownsRow w.heap.size 31 7 v ts.length (toksC ts)
    | .error a => e = .returned (.tuple #[.slice none 0 0, .int .i64 a, .int .i64 50])
set_option maxHeartbeats 4000000 in
set_option maxRecDepth 100000 in
theorem scan_ascii (E : Lx.Env) (s : ByteArray) (V : Nat → Prop) (R : Nat → List Int → Prop) (w0 w : World) (ha : ∀ b ∈ s.data.toList, b.toNat < 128) (hR : RunOk E s V R) (hCM : CmOk E s V) (hVS : VSkip E s.data.toList V) (hLO : LitOk E s V w0) (hM : MaxOk w0)
    (hG : Below w0.heap.size w0 w) (hs : s.size ≤ 262144) (htab : ∀ w, Below w0.heap.size w0 w → Lib.TabIs Tryz.prog w "strings.asciiSpace" .u8 Lib.asciiSpaceTab) :
    Calls Tryz.prog 11 #[.string s] w (ScanPost E s w) := by
  have hmf : ∀ (fn : Fn) (first cap : Array Value) (w : World), (Instr.makeFunc fn first cap).run Tryz.prog w = .ok (.func fn first cap) w := fun _ _ _ _ => rfl
  go_enter Tryz.func11, Tryz.ntmps11
  go_wp2_with fail
  refine (may_ascii s _ ha hs).mono ?_
  rintro e w1 ⟨rfl, hb⟩
  have hg1 : Below w0.heap.size w0 w1 := hG.trans (hb.mono hG.size)
  have hsz := hb.size
  have hsz0 := hG.size
  go_wp2_with fail
  refine (each_any E s V R w0 (w1.alloc (.cells #[.slice none 0 0] 24)) w1.heap.size (.slice none 0 0) hR hCM hVS hLO hM (hg1.alloc (by omega) _) (by omega) hs htab ⟨heap_alloc_new _ _, ⟨by simp [toksC], Or.inl ⟨rfl, rfl⟩⟩⟩).mono ?_
  rintro e w2 ⟨hK, hP⟩
  have hB2 : Below w1.heap.size w1 w2 := (((Kf.refl (fun k _ => w1.heap.size ≤ k) w1).alloc _).trans hK).below (Nat.le_refl _) (fun _ _ h => h)
  have HB := Lib.hid (hb.trans (hB2.mono hsz))
  cases hsc : Lx.scan E s.data.toList with
  | error a =>
    rw [hsc] at hP
    subst hP
    go_wp2
    exact bodyPost_ret (v := .tuple #[.slice none 0 0, .int .i64 a, .int .i64 50]) (by simp [results, Tryz.results11]) rfl ⟨HB.out, by rw [hsc]⟩
  | ok ts =>
    rw [hsc] at hP
    obtain ⟨he, v, hC⟩ := hP
    subst he
    have k0 : w2.cell? ⟨w1.heap.size, 0, none⟩ = some v := by simp [World.cell?, hC.blk]
    go_wp2
    exact bodyPost_ret (v := .tuple #[v, .int .i64 0, .int .i64 0]) (by simp [results, Tryz.results11]) rfl ⟨HB.out, by rw [hsc]; exact ⟨v, rfl, own_le hC.own (by omega)⟩⟩
end Go.Proofs.YtcgibcjpkhefpaaGreatDoor
namespace Go.Lx
def worth (c : UInt8) : Nat := if 48 ≤ c.toNat ∧ c.toNat ≤ 57 then c.toNat - 48 else if 97 ≤ (c ||| 32).toNat ∧ (c ||| 32).toNat ≤ 122 then (c ||| 32).toNat - 97 + 10 else 99
/-- How many bytes from place p on are digits of base n. -/
def run (l : List UInt8) (n p : Nat) : Nat := ((l.drop p).takeWhile fun c => decide (worth c < n)).length
end Go.Lx
namespace Go.Proofs.YtcgibcjpkhefpaaGreatDoor
open Go.RowKit
theorem or32b (c : UInt8) : bits .or .u8 (c.toNat : Int) 32 = ((c ||| 32).toNat : Int) := by
  revert c; exact u8_all (by decide +kernel)
set_option maxHeartbeats 1000000 in
set_option maxRecDepth 100000 in
theorem worth_any (c : UInt8) (w : World) : Calls Tryz.prog 103 #[.int .u8 c.toNat] w fun e w' => e = .returned (.int .i64 (Lx.worth c)) ∧ w' = w := by
  have h32 := or32b c
  have hc := c.toNat_lt
  have hc2 := (c ||| 32).toNat_lt
  unfold Lx.worth
  generalize (c ||| 32).toNat = d at *
  generalize c.toNat = n at *
  by_cases h1 : 48 ≤ (n : Int) ∧ (n : Int) ≤ 57
  · obtain ⟨h1, h2⟩ := h1
    rw [if_pos (by omega)]
    go_enter Tryz.func103, Tryz.ntmps103
    go_wp2
    all_goals
      go_ret
      exact ⟨congrArg (fun z => Ending.returned (.int .i64 z)) (by omega), rfl⟩
  · rw [if_neg (by omega)]
    by_cases h2 : 97 ≤ (d : Int) ∧ (d : Int) ≤ 122
    · rw [if_pos (by omega)]
      go_enter Tryz.func103, Tryz.ntmps103
      go_wp2
      all_goals
        go_ret
        exact ⟨congrArg (fun z => Ending.returned (.int .i64 z)) (by omega), rfl⟩
    · rw [if_neg (by omega)]
      go_enter Tryz.func103, Tryz.ntmps103
      go_wp2
      all_goals
        go_ret
        exact ⟨congrArg (fun z => Ending.returned (.int .i64 z)) (by omega), rfl⟩
theorem digitsOf_any (n : Int) (w : World) : Calls Tryz.prog 100 #[.int .i64 n] w fun e w' => e = .returned (.func (.func 119) #[] #[.pointer (some ⟨w.heap.size, 0, none⟩)]) ∧ w' = w.alloc (.cells #[.int .i64 n] 3) := by
  have hmf : ∀ (fn : Fn) (first cap : Array Value) (w : World), (Instr.makeFunc fn first cap).run Tryz.prog w = .ok (.func fn first cap) w := fun _ _ _ _ => rfl
  go_enter Tryz.func100, Tryz.ntmps100
  go_wp2
  go_ret
  exact ⟨rfl, rfl⟩
set_option maxHeartbeats 1000000 in
theorem digitsOf1_any (n : Nat) (c : UInt8) (k : Nat) (w : World) (h : w.cell? ⟨k, 0, none⟩ = some (.int .i64 n)) : Calls Tryz.prog 119 #[.int .u8 c.toNat, .pointer (some ⟨k, 0, none⟩)] w fun e w' => e = .returned (.bool (decide (Lx.worth c < n))) ∧ ∃ m, w' = w.drewN m := by
  go_enter Tryz.func119, Tryz.ntmps119
  go_wp2
  go_quiet ((go_at_call 103; exact Calls.quiet_of_same (worth_any _ _)))
  go_wp2
  go_ret
  exact ⟨ret_bool (by simp), _, rfl⟩
end Go.Proofs.YtcgibcjpkhefpaaGreatDoor
namespace Go.Lx
theorem run_end {l : List UInt8} {n p : Nat} (h : l.length ≤ p) : run l n p = 0 := by simp [run, List.drop_eq_nil_of_le h]
theorem run_no {l : List UInt8} {n p : Nat} (hp : p < l.length) (h : ¬ worth l[p] < n) : run l n p = 0 := by
  rw [run, List.drop_eq_getElem_cons hp, List.takeWhile_cons]
  simp [h]
theorem run_yes {l : List UInt8} {n p : Nat} (hp : p < l.length) (h : worth l[p] < n) : run l n p = run l n (p + 1) + 1 := by
  rw [run, List.drop_eq_getElem_cons hp, List.takeWhile_cons]
  simp [h, run]
theorem run_le {l : List UInt8} {n p : Nat} : run l n p ≤ l.length - p := by
  have := List.Sublist.length_le (List.takeWhile_sublist (fun c => decide (worth c < n)) (l := l.drop p))
  simpa [run] using this
end Go.Lx
namespace Go.Proofs.YtcgibcjpkhefpaaGreatDoor
open Go.RowKit
set_option maxHeartbeats 2000000 in
set_option maxRecDepth 100000 in
theorem run_any (t : ByteArray) (p n k : Nat) (w : World) (ht : t.size ≤ 262144) (hp : p ≤ 262145) (h : w.cell? ⟨k, 0, none⟩ = some (.int .i64 n)) :
    Calls Tryz.prog 99 #[.string t, .int .i64 p, .func (.func 119) #[] #[.pointer (some ⟨k, 0, none⟩)]] w fun e w' => e = .returned (.int .i64 (Lx.run t.data.toList n p)) ∧ ∃ m, w' = w.drewN m := by
  have hlen : t.data.toList.length = t.size := by simp
  go_enter Tryz.func99, Tryz.ntmps99
  go_wp2
  go_loopw [7] (fun i wr => ∃ j m : Nat, i = .int .i64 j ∧ wr = w.drewN m ∧ j ≤ t.size ∧ Lx.run t.data.toList n (p + j) + j = Lx.run t.data.toList n p) (fun i _ => t.size - (intOf i).toNat)
  case atStart => exact ⟨0, 0, rfl, rfl, by omega, by simp⟩
  case round =>
    obtain ⟨j, m, rfl, rfl, hj, hr⟩ := hrel
    have HR := Lib.hid hr
    clear hr
    by_cases hlt : p + j < t.size
    · have hc : ∃ c, t.data.toList[p + j]? = some c := ⟨_, List.getElem?_eq_getElem (by omega)⟩
      have hcell : (w.drewN m).cell? ⟨k, 0, none⟩ = some (.int .i64 n) := h
      have hg : decide ((p : Int) + j < t.size) = true := by simp; omega
      go_wp2_with fail
      refine (digitsOf1_any n _ k _ hcell).mono ?_
      rintro e w1 ⟨rfl, m1, rfl⟩
      have hel : (t[p + j]'hlt) = t.data.toList[p + j]'(by omega) := by simp; rfl
      by_cases hw : Lx.worth (t[p + j]'hlt) < n
      · have hwb : decide (Lx.worth (t[p + j]'hlt) < n) = true := by simpa using hw
        have hs := Lx.run_yes (l := t.data.toList) (p := p + j) (by omega) (by rw [← hel]; exact hw)
        go_wp2_with fail
        go_roundw
        case rel => exact ⟨j + 1, _, by simp, rfl, by omega, by have := HR.out; rw [show p + (j + 1) = p + j + 1 from rfl]; omega⟩
        case measure => simp [intOf]; omega
      · have hwb : decide (Lx.worth (t[p + j]'hlt) < n) = false := by simpa using hw
        have hs := Lx.run_no (l := t.data.toList) (p := p + j) (by omega) (by rw [← hel]; exact hw)
        go_wp2
        go_ret
        have := HR.out
        exact ⟨congrArg (fun z => Ending.returned (.int .i64 z)) (by omega), _, rfl⟩
    · have hg : decide ((p : Int) + j < t.size) = false := by simp; omega
      have hs := Lx.run_end (l := t.data.toList) (n := n) (p := p + j) (by omega)
      go_wp2
      go_ret
      have := HR.out
      exact ⟨congrArg (fun z => Ending.returned (.int .i64 z)) (by omega), _, rfl⟩
end Go.Proofs.YtcgibcjpkhefpaaGreatDoor
namespace Go.Proofs.YtcgibcjpkhefpaaGreatDoor
open Go.RowKit
abbrev t15 : ByteArray := ⟨#[49, 46, 53]⟩
theorem prefix_15 (w : World) : Calls Tryz.prog 98 #[.string t15] w fun e w' => e = .returned (.int .i64 0) ∧ ∃ m, w' = w.drewN m := by
  have h3 : (t15.size : Int) = 3 := rfl
  go_enter Tryz.func98, Tryz.ntmps98
  go_wp2
  go_ret
  exact ⟨rfl, 0, rfl⟩
set_option maxHeartbeats 2000000 in
set_option maxRecDepth 100000 in
theorem decimal_15 (w : World) : Calls Tryz.prog 102 #[.string t15] w fun e w' => e = .returned (.int .i64 3) ∧ Below w.heap.size w w' := by
  have hcell : ∀ m, ((w.alloc (.cells #[.int .i64 10] 3)).drewN m).cell? ⟨w.heap.size, 0, none⟩ = some (.int .i64 (10 : Nat)) := fun m => cell_new0 (w := w) rfl
  have h0 : Lx.run t15.data.toList 10 0 = 1 := by decide
  have h2 : Lx.run t15.data.toList 10 2 = 1 := by decide
  go_enter Tryz.func102, Tryz.ntmps102
  go_wp2_with fail
  refine (digitsOf_any 10 w).mono ?_
  rintro e w1 ⟨rfl, rfl⟩
  go_wp2_with fail
  refine (run_any t15 0 10 _ _ (by decide) (by omega) (hcell 0)).mono ?_
  rintro e w1 ⟨rfl, m1, rfl⟩
  rw [h0]
  go_wp2_with fail
  refine (run_any t15 2 10 _ _ (by decide) (by omega) (hcell m1)).mono ?_
  rintro e w1 ⟨rfl, m2, rfl⟩
  rw [h2]
  go_wp2
  go_ret
  exact ⟨rfl, (((Kf.refl (fun _ _ => False) w).alloc _).drewN _).below (Nat.le_refl _) (fun _ _ h => h.elim)⟩
end Go.Proofs.YtcgibcjpkhefpaaGreatDoor
namespace Go.Proofs.YtcgibcjpkhefpaaGreatDoor
open Go.RowKit
theorem signed_none (w : World) : Calls Tryz.prog 123 #[.string ⟨#[]⟩] w fun e w' => e = .returned (.tuple #[.float .f64 4607182418800017408, .string ⟨#[]⟩]) ∧ ∃ m, w' = w.drewN m := by
  go_enter Tryz.func123, Tryz.ntmps123
  go_wp2_with fail
  refine (Tryz.strings_TrimPrefix _ _ _).mono ?_
  rintro e w1 ⟨rfl, rfl⟩
  go_wp2
  exact bodyPost_ret (v := .tuple #[.float .f64 4607182418800017408, .string ⟨#[]⟩]) (by rw [show Lib.trimPrefix [] [43] = [] by decide +kernel]; simp [results, Tryz.results123]) rfl ⟨rfl, 0, rfl⟩
theorem conv_one (w : World) : (convert 29 3 (.float .f64 4607182418800017408)).run Tryz.prog w = .ok (.int .i64 1) w := by
  simp [convert, go_sem]
  have h : (FloatKind.f64.decode 4607182418800017408).toInt .zero = some 1 := by decide +kernel
  unfold Conv.floatToInt
  rw [h]
  rfl
set_option maxHeartbeats 4000000 in
set_option maxRecDepth 100000 in
theorem float_15 (w : World) (m : Int) (h1 : 1 < w.heap.size) (hm : w.cell? ⟨1, 0, none⟩ = some (.int .i64 m))
    (hPF : ∀ w1, Below w.heap.size w w1 → Calls Tryz.prog 84 #[.string ⟨#[48, 46, 49, 53, 101, 49]⟩, .int .i64 64] w1 fun e w' => e = .returned (.tuple #[.float .f64 4609434218613702656, .nilIface]) ∧ Below w1.heap.size w1 w') :
    Calls Tryz.prog 104 #[.string t15] w fun e w' => e = .returned (.float .f64 4609434218613702656) ∧ Below w.heap.size w w' := by
  have hA : ∀ b ∈ t15.data.toList, b.toNat < 128 := by decide
  go_enter Tryz.func104, Tryz.ntmps104
  go_wp2_with fail
  refine (Tryz.strings_IndexAny_short t15 ⟨#[101, 69]⟩ _ (by decide) (by decide) (fun j b hb => hA b (List.mem_of_getElem? hb))).mono ?_
  rintro e w1 ⟨rfl, pos, rfl⟩
  rw [show Lib.indexAny t15.data.toList (⟨#[101, 69]⟩ : ByteArray).data.toList = -1 by decide +kernel]
  have hb1 : Below w.heap.size w (w.iter t15 pos) := (Below.refl _ _).alloc (Nat.le_refl _) _
  go_wp2_with fail
  refine (Tryz.strings_Cut t15 ⟨#[46]⟩ m _ (by decide) (by rw [hb1.cell (p := ⟨1, 0, none⟩) h1]; exact hm)).mono ?_
  rintro e w1 ⟨rfl, n1, rfl⟩
  rw [show Lib.cut t15.data.toList (⟨#[46]⟩ : ByteArray).data.toList = ([49], [53], true) by decide +kernel]
  go_wp2_with fail
  refine (Tryz.strings_TrimLeft_one _ 48 (by decide) _).mono ?_
  rintro e w1 ⟨rfl, rfl⟩
  rw [show Lib.trimLeftB ((⟨#[49]⟩ : ByteArray) ++ ⟨#[53]⟩).data.toList 48 = [49, 53] by decide +kernel]
  go_wp2_with fail
  refine (signed_none _).mono ?_
  rintro e w1 ⟨rfl, n2, rfl⟩
  go_wp2
  have hit : (((w.iter t15 pos).drewN (n1 + n2)).iter ⟨#[]⟩ 0).heap[(w.iter t15 pos).heap.size]? = some (.stringIter ⟨#[]⟩ 0) := World.iter_heap ((w.iter t15 pos).drewN (n1 + n2)) ⟨#[]⟩ 0
  have hb2 : Below w.heap.size w (((w.iter t15 pos).drewN (n1 + n2)).iter ⟨#[]⟩ 0) := ((((Kf.refl (fun _ _ => False) w).alloc (.stringIter t15 pos)).drewN (n1 + n2)).alloc (.stringIter ⟨#[]⟩ 0)).below (Nat.le_refl _) (fun _ _ h => h.elim)
  go_loopw [10] (fun x wr => x = .int .i64 0 ∧ wr = ((w.iter t15 pos).drewN (n1 + n2)).iter ⟨#[]⟩ 0) (fun _ _ => 0)
  case atStart => exact ⟨rfl, rfl⟩
  case round =>
    obtain ⟨rfl, rfl⟩ := hrel
    have hnx : ∀ ty, (Instr.next (.pointer (some ⟨(w.iter t15 pos).heap.size, 0, none⟩)) true ty).run Tryz.prog _ = _ := fun ty => Lib.run_next_end_at _ (w.iter t15 pos).heap.size ⟨#[]⟩ 0 ty hit (by decide)
    generalize ((w.iter t15 pos).drewN (n1 + n2)).iter ⟨#[]⟩ 0 = W at *
    have hcv := conv_one W
    go_wp2_with fail
    refine (Tryz.strconv_Itoa_small 1 (by omega) W).mono ?_
    rintro e w1 ⟨rfl, rfl⟩
    rw [show Lib.decDigits 1 = [49] by decide +kernel]
    go_wp2_with fail
    rw [show (((⟨#[48, 46]⟩ : ByteArray) ++ ⟨#[49, 53]⟩) ++ ⟨#[101]⟩) ++ ⟨[49].toArray⟩ = ⟨#[48, 46, 49, 53, 101, 49]⟩ from by decide +kernel]
    refine (hPF _ hb2).mono ?_
    rintro e w1 ⟨rfl, hb3⟩
    go_wp2
    go_ret
    exact ⟨rfl, hb2.trans (hb3.mono hb2.size)⟩
end Go.Proofs.YtcgibcjpkhefpaaGreatDoor
namespace Go.Proofs.YtcgibcjpkhefpaaGreatDoor
open Go.RowKit
/-- What strconv.ParseFloat answers at 0.15e1. -/
def Pf15 (w0 : World) : Prop := ∀ w1, Below w0.heap.size w0 w1 → Calls Tryz.prog 84 #[.string ⟨#[48, 46, 49, 53, 101, 49]⟩, .int .i64 64] w1 fun e w' => e = .returned (.tuple #[.float .f64 4609434218613702656, .nilIface]) ∧ Below w1.heap.size w1 w'
set_option maxHeartbeats 4000000 in
set_option maxRecDepth 100000 in
theorem literal_15 (w0 w : World) (hM : MaxOk w0) (hG : Below w0.heap.size w0 w) (hPF : Pf15 w0) :
    Calls Tryz.prog 79 #[.string t15] w fun e w' => e = .returned (.tuple #[.float .f64 4609434218613702656, .int .i64 3, .int .i64 0]) ∧ Below w.heap.size w w' := by
  obtain ⟨h1, m, hm⟩ := hM
  have hsl : t15.extract 0 3 = t15 := by decide +kernel
  have hsz := hG.size
  go_enter Tryz.func79, Tryz.ntmps79
  go_wp2_with fail
  refine (prefix_15 _).mono ?_
  rintro e w1 ⟨rfl, m1, rfl⟩
  go_wp2_with fail
  refine (decimal_15 _).mono ?_
  rintro e w1 ⟨rfl, hb⟩
  have hb1 : Below w.heap.size w w1 := ((Kf.refl (fun _ _ => False) w).drewN m1 |>.below (Nat.le_refl _) (fun _ _ h => h.elim)).trans hb
  have hG1 : Below w0.heap.size w0 w1 := hG.trans (hb1.mono hsz)
  have hsz1 := hG1.size
  go_wp2_with fail
  refine (float_15 w1 m (by omega) (by rw [hG1.cell (p := ⟨1, 0, none⟩) h1]; exact hm) (fun w2 h2 => hPF w2 (hG1.trans (h2.mono hsz1)))).mono ?_
  rintro e w2 ⟨rfl, hb2⟩
  go_wp2
  exact bodyPost_ret (v := .tuple #[.float .f64 4609434218613702656, .int .i64 3, .int .i64 0]) (by simp [results, Tryz.results79]) rfl ⟨rfl, hb1.trans (hb2.mono hb1.size)⟩
end Go.Proofs.YtcgibcjpkhefpaaGreatDoor
namespace Go.Proofs.YtcgibcjpkhefpaaGreatDoor
open Go.RowKit
abbrev t015 : ByteArray := ⟨#[48, 46, 49, 53, 101, 49]⟩
set_option maxHeartbeats 2000000 in
set_option maxRecDepth 100000 in
theorem special_015 (w : World) : Calls Tryz.prog 166 #[.string t015] w fun e w' => e = .returned (.tuple #[.float .f64 0, .int .i64 0, .bool false]) ∧ ∃ m, w' = w.drewN m := by
  have he : (t015[0]'(by decide)).toNat = 48 := rfl
  go_enter Tryz.func166, Tryz.ntmps166
  go_wp2
  exact bodyPost_ret (v := .tuple #[.float .f64 0, .int .i64 0, .bool false]) (by simp [results, Tryz.results166]) rfl ⟨rfl, 0, rfl⟩
end Go.Proofs.YtcgibcjpkhefpaaGreatDoor
namespace Go.Proofs.YtcgibcjpkhefpaaGreatDoor
open Go.RowKit
section
variable {b g : Nat} {s : ByteArray} {lv ov : Value} {p : Nat} {ln : Bool} {opn : List Int}
set_option maxHeartbeats 1000000 in
set_option maxRecDepth 100000 in
theorem comment_no (w : World) (hs : s.size ≤ 262144) (hp : p ≤ s.size) (h : Scn b s lv p ln ov opn w) (h1 : Lx.pre [47, 47] s.data.toList p = false) (h2 : Lx.pre [47, 42] s.data.toList p = false) :
    Calls Tryz.prog 77 #[.pointer (some ⟨b, 0, none⟩)] w fun e w' => e = .returned (.bool false) ∧ ∃ k, w' = w.drewN k := by
  have c1 := h.c1
  have H1 := Lib.hid h1
  have H2 := Lib.hid h2
  have HS := Lib.hid h
  clear h1 h2 h
  go_enter Tryz.func77, Tryz.ntmps77
  go_wp2_with fail
  refine (has_any _ _ (by omega) hp HS.out).mono ?_
  rintro e w1 ⟨rfl, k, rfl⟩
  rw [show Lx.pre (⟨#[47, 47]⟩ : ByteArray).data.toList s.data.toList p = false from H1.out]
  go_wp2_with fail
  refine (has_any _ _ (by omega) hp (HS.out.drewN k)).mono ?_
  rintro e w1 ⟨rfl, k2, rfl⟩
  rw [show Lx.pre (⟨#[47, 42]⟩ : ByteArray).data.toList s.data.toList p = false from H2.out]
  go_wp2
  exact bodyPost_ret (v := .bool false) (by simp [results, Tryz.results77]) rfl ⟨rfl, _, rfl⟩
end
/-- No comment at any of the places. -/
def noCm (l : List UInt8) (vs : List Nat) : Bool := vs.all fun p => !Lx.pre [47, 47] l p && !Lx.pre [47, 42] l p
theorem noCm_at {l : List UInt8} {vs : List Nat} (h : noCm l vs = true) {p : Nat} (hp : p ∈ vs) : Lx.pre [47, 47] l p = false ∧ Lx.pre [47, 42] l p = false := by
  have := List.all_eq_true.1 h p hp
  simpa using this
theorem cm_eq {E : Lx.Env} {l : List UInt8} {p : Nat} {ln : Bool} (h : Lx.pre [47, 47] l p = false ∧ Lx.pre [47, 42] l p = false) : Lx.comment E l p ln = .no := by
  unfold Lx.comment
  simp [h.1, h.2]
theorem cmOk_of (E : Lx.Env) (s : ByteArray) (vs : List Nat) (h : noCm s.data.toList vs = true) (hs : s.size ≤ 262144) : CmOk E s (· ∈ vs) := by
  intro b lv ov p ln opn w hv hp hS
  have hn := noCm_at h hv
  refine (comment_no w hs hp hS hn.1 hn.2).mono ?_
  rintro e w1 ⟨rfl, k, rfl⟩
  refine ⟨(Kf.refl _ _).drewN k, ?_⟩
  rw [cm_eq hn]
  exact ⟨rfl, hS.drewN k⟩
def vOk (l : List UInt8) (vs : List Nat) : Bool := vs.all fun p => match Lx.nl l p with
  | some q => vs.contains q
  | none => match Lx.bl l p with
    | some q => vs.contains q
    | none => true
theorem vSkip_of (E : Lx.Env) (l : List UInt8) (vs : List Nat) (h : vOk l vs = true) (hc : noCm l vs = true) : VSkip E l (· ∈ vs) := by
  have h : ∀ p ∈ vs, _ := List.all_eq_true.1 h
  refine ⟨fun p q hp hn => ?_, fun p q hp hn hb => ?_, fun p q ln ln' hp hn hb hcm => ?_⟩
  · have := h p hp
    simp only [hn] at this
    simpa using this
  · have := h p hp
    simp only [hn, hb] at this
    simpa using this
  · rw [cm_eq (noCm_at hc hp)] at hcm
    cases hcm
def rOk (E : Lx.Env) (l : List UInt8) (vs : List Nat) (rs : List (Nat × List Int)) : Bool := rs.all fun x =>
  vs.contains x.1 && decide (x.1 ≤ l.length) && decide (x.2.length ≤ x.1) && (x.2.all fun m => decide (0 ≤ m) && decide (m ≤ x.1)) &&
  (match Lx.skip E l (l.length - x.1) x.1 false with
    | .ok (q, _) => vs.contains q && decide (x.1 ≤ q) && decide (q ≤ l.length)
    | .error _ => true) &&
  (match Lx.next E l x.1 x.2 with
    | .ok (t, r, opn') => t.tk.kind == 0 || (rs.contains (r, opn') && decide (x.1 < r))
    | .error _ => true)
theorem runOk_of (E : Lx.Env) (s : ByteArray) (vs : List Nat) (rs : List (Nat × List Int)) (h : rOk E s.data.toList vs rs = true) (hz : rs.contains (0, []) = true) : RunOk E s (· ∈ vs) (fun p opn => (p, opn) ∈ rs) := by
  have h : ∀ x ∈ rs, _ := List.all_eq_true.1 h
  have hlen : s.data.toList.length = s.size := by simp
  refine ⟨fun p opn hp => ?_, fun p opn hp q l2 hq => ?_, fun p opn t r opn' hp hn hk => ?_, by simpa using hz⟩
  · have := h _ hp
    simp only [Bool.and_eq_true, decide_eq_true_eq, List.contains_iff_mem, List.all_eq_true] at this
    exact ⟨this.1.1.1.1.1, by omega, this.1.1.1.2, fun m hm => this.1.1.2 m hm⟩
  · have := h _ hp
    simp only [hq, Bool.and_eq_true, decide_eq_true_eq, List.contains_iff_mem] at this
    exact ⟨this.1.2.1.1, this.1.2.1.2, by have := this.1.2.2; omega⟩
  · have := h _ hp
    simp only [hn, Bool.and_eq_true, Bool.or_eq_true, decide_eq_true_eq, List.contains_iff_mem, beq_iff_eq] at this
    rcases this.2 with h0 | h1
    · exact absurd h0 hk
    · exact h1
end Go.Proofs.YtcgibcjpkhefpaaGreatDoor

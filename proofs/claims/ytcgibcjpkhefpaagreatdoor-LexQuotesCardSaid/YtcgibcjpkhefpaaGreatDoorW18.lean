/-
  A part of the proof: each: the tokens of a text one by one, as the model tells them.
-/
import Derived.Test.YtcgibcjpkhefpaaGreatDoorW17
namespace Go.Proofs.YtcgibcjpkhefpaaGreatDoor
open Go.RowKit
/-- What holds at each state that next is asked at. -/
structure RunOk (E : Lx.Env) (s : ByteArray) (V : Nat → Prop) (R : Nat → List Int → Prop) : Prop where
  v : ∀ p opn, R p opn → V p ∧ p ≤ s.size ∧ OpnOk opn p
  sk : ∀ p opn, R p opn → ∀ q l2, Lx.skip E s.data.toList (s.data.toList.length - p) p false = .ok (q, l2) → V q ∧ p ≤ q ∧ q ≤ s.size
  st : ∀ p opn t r opn', R p opn → Lx.next E s.data.toList p opn = .ok (t, r, opn') → t.tk.kind ≠ 0 → R r opn' ∧ p < r
  z : R 0 []
def EachPost (E : Lx.Env) (c : Nat) (s : ByteArray) (w : World) (e : Ending) (w' : World) : Prop :=
  Kf (fun k _ => c ≤ k) w w' ∧ match Lx.scan E s.data.toList with
    | .ok ts => e = .returned (.tuple #[.int .i64 0, .int .i64 0]) ∧ ∃ v, Cap c ts v w'
    | .error a => e = .returned (.tuple #[.int .i64 a, .int .i64 50])
theorem fields_call (t : ByteArray) (ht : Lib.fields t.data.toList = Lx.signs ∧ t.size < 4294967281 ∧ ∀ b ∈ t.data.toList, b.toNat < 128) (w : World) (htab : Lib.TabIs Tryz.prog w "strings.asciiSpace" .u8 Lib.asciiSpaceTab) :
    Calls Tryz.prog 34 #[.string t] w fun e w' => e = .returned (.slice (some ⟨w.heap.size, 0, none⟩) Lx.signs.length Lx.signs.length) ∧ w' = w.alloc (.cells signCells 9) := by
  obtain ⟨h1, h2, h3⟩ := ht
  refine (Tryz.strings_Fields_laid t w h2 (fun j b hb => h3 b (List.mem_of_getElem? hb)) htab).mono ?_
  rintro e w' ⟨rfl, rfl⟩
  rw [h1]
  exact ⟨rfl, rfl⟩
theorem two_cells {w : World} {n : Nat} {x y : Value} (h1 : w.heap[n]? = some (.cells #[x] 3 (0, 0))) (h2 : w.heap[n + 1]? = some (.cells #[y] 25 (0, 0))) (u v : Value) :
    w.cell? ⟨n, 0, none⟩ = some x ∧ w.frozen? ⟨n, 0, none⟩ = false ∧ (w.setCell ⟨n, 0, none⟩ u).cell? ⟨n + 1, 0, none⟩ = some y ∧ (w.setCell ⟨n, 0, none⟩ u).frozen? ⟨n + 1, 0, none⟩ = false ∧ ((w.setCell ⟨n, 0, none⟩ u).setCell ⟨n + 1, 0, none⟩ v).cell? ⟨n, 0, none⟩ = some u ∧ ((w.setCell ⟨n, 0, none⟩ u).setCell ⟨n + 1, 0, none⟩ v).cell? ⟨n + 1, 0, none⟩ = some v := by
  have a1 : (w.setCell ⟨n, 0, none⟩ u).heap[n]? = some (.cells #[u] 3 (0, 0)) := by rw [heap_setSelf h1]; rfl
  have a2 : (w.setCell ⟨n, 0, none⟩ u).heap[n + 1]? = some (.cells #[y] 25 (0, 0)) := by rw [Below.heap_setCell _ _ _ _ (by simp)]; exact h2
  have b1 : ((w.setCell ⟨n, 0, none⟩ u).setCell ⟨n + 1, 0, none⟩ v).heap[n]? = some (.cells #[u] 3 (0, 0)) := by rw [Below.heap_setCell _ _ _ _ (by simp)]; exact a1
  have b2 : ((w.setCell ⟨n, 0, none⟩ u).setCell ⟨n + 1, 0, none⟩ v).heap[n + 1]? = some (.cells #[v] 25 (0, 0)) := by rw [heap_setSelf a2]; rfl
  exact ⟨by simp [World.cell?, h1], by simp [World.frozen?, h1], by simp [World.cell?, a2], by simp [World.frozen?, a2], by simp [World.cell?, b1], by simp [World.cell?, b2]⟩
theorem four_allocs (w : World) (A B C D : Obj) : ((((w.alloc A).alloc B).alloc C).alloc D).heap[w.heap.size]? = some A ∧ ((((w.alloc A).alloc B).alloc C).alloc D).heap[w.heap.size + 1]? = some B ∧ ((((w.alloc A).alloc B).alloc C).alloc D).heap[w.heap.size + 1 + 1]? = some C ∧ ((((w.alloc A).alloc B).alloc C).alloc D).heap[w.heap.size + 1 + 1 + 1]? = some D := by
  have z : ∀ (w : World) (o : Obj), (w.alloc o).heap.size = w.heap.size + 1 := fun w o => by simp
  have h1 := heap_alloc_new w A
  have h2 := heap_alloc_new (w.alloc A) B
  have h3 := heap_alloc_new ((w.alloc A).alloc B) C
  have h4 := heap_alloc_new (((w.alloc A).alloc B).alloc C) D
  rw [z] at h2
  rw [z, z] at h3
  rw [z, z, z] at h4
  refine ⟨?_, ?_, ?_, h4⟩
  · rw [Below.heap_alloc _ _ _ (by simp only [z]; omega), Below.heap_alloc _ _ _ (by simp only [z]; omega), Below.heap_alloc _ _ _ (by simp only [z]; omega)]; exact h1
  · rw [Below.heap_alloc _ _ _ (by simp only [z]; omega), Below.heap_alloc _ _ _ (by simp only [z]; omega)]; exact h2
  · rw [Below.heap_alloc _ _ _ (by simp only [z]; omega)]; exact h3
theorem Cap.setCell {c : Nat} {acc : List Lx.Tok} {v : Value} {w : World} (h : Cap c acc v w) {k : Nat} {cs : Array Value} {T : TypeId} (hk : w.heap[k]? = some (.cells cs T (0, 0))) (hT : T ≠ 31) (hkc : k ≠ c) (u : Value) : Cap c acc v (w.setCell ⟨k, 0, none⟩ u) :=
  h.kf (S := fun j o => j = k ∧ w.heap[k]? = some o) (Kf.set (a := ⟨k, 0, none⟩) (Kf.refl _ _) (fun o ho => ⟨rfl, ho⟩) _) (fun e => hkc e.1.symm) (fun _ _ _ e => by
    have e := e.2; rw [hk] at e; injection e with e; injection e with _ e _; exact hT e)
/-- The loop's own relation. -/
structure EachRel (E : Lx.Env) (s : ByteArray) (R : Nat → List Int → Prop) (c n : Nat) (w wr : World) (f p : Nat) (ln : Bool) (opn : List Int) (acc : List Lx.Tok) (ov v' : Value) : Prop where
  fu : s.size < f + p
  al : acc.length ≤ p
  r : R p opn
  scn : Scn (n + 1 + 1 + 1) s (.slice (some ⟨n + 1 + 1, 0, none⟩) Lx.signs.length Lx.signs.length) p ln ov opn wr
  cap : Cap c acc v' wr
  kf : Kf (fun k _ => c ≤ k) w wr
  g : wr.heap[n + 1 + 1]? = some (.cells signCells 9 (0, 0))
  pa : wr.heap[n]? = some (.cells #[.int .i64 0] 3 (0, 0))
  pe : wr.heap[n + 1]? = some (.cells #[.int .i64 0] 25 (0, 0))
  eq : Lx.toks E s.data.toList f p opn acc = Lx.scan E s.data.toList
set_option maxHeartbeats 4000000 in
set_option maxRecDepth 100000 in
theorem each_any (E : Lx.Env) (s : ByteArray) (V : Nat → Prop) (R : Nat → List Int → Prop) (w0 w : World) (c : Nat) (v : Value) (hR : RunOk E s V R) (hCM : CmOk E s V) (hVS : VSkip E s.data.toList V) (hLO : LitOk E s V w0) (hM : MaxOk w0)
    (hG : Below w0.heap.size w0 w) (hc0 : w0.heap.size ≤ c) (hs : s.size ≤ 262144) (htab : ∀ w, Below w0.heap.size w0 w → Lib.TabIs Tryz.prog w "strings.asciiSpace" .u8 Lib.asciiSpaceTab) (hC : Cap c [] v w) :
    Calls Tryz.prog 23 #[.string s, .func (.func 24) #[] #[.pointer (some ⟨c, 0, none⟩)]] w (EachPost E c s w) := by
  obtain ⟨fs, hd⟩ : ∃ fs, Tryz.prog.underlying 31 = some (.struct fs) := by
    have := under31
    cases h : Tryz.prog.underlying 31 with
    | none => rw [h] at this; cases this
    | some d => rw [h] at this; cases d <;> first | exact ⟨_, rfl⟩ | cases this
  have hcn : c < w.heap.size := lt_of_heap hC.blk
  have hmf : ∀ (fn : Fn) (first cap : Array Value) (w : World), (Instr.makeFunc fn first cap).run Tryz.prog w = .ok (.func fn first cap) w := fun _ _ _ _ => rfl
  go_enter_defers Tryz.func23, Tryz.ntmps23
  go_wp2_with fail
  refine (fields_call _ (by decide +kernel) _ (htab _ ((hG.alloc (by have := hG.size; omega) _).alloc (by have := hG.size; simp; omega) _))).mono ?_
  rintro e w1 ⟨rfl, rfl⟩
  go_wp2
  go_loopw [] (fun wr => ∃ (f p : Nat) (ln : Bool) (opn : List Int) (acc : List Lx.Tok) (ov v' : Value), EachRel E s R c w.heap.size w wr f p ln opn acc ov v') (fun wr => s.size - posOf (w.heap.size + 1 + 1 + 1) wr)
  case atStart =>
    refine ⟨s.size + 1, 0, false, [], [], .slice none 0 0, v, by omega, by simp, hR.z, ?_, ?_, ?_, ?_, ?_, ?_, by simp [Lx.scan]⟩
    · obtain ⟨q1, q2, q3, q4⟩ := four_allocs w (.cells #[.int .i64 0] 3) (.cells #[.int .i64 0] 25) (.cells signCells 9) (.cells #[.string s, .int .i64 0, .bool false, .slice none 0 0, .slice (some ⟨w.heap.size + 1 + 1, 0, none⟩) Lx.signs.length Lx.signs.length] 66)
      exact ⟨q4, ⟨by simp, Or.inl ⟨rfl, rfl⟩⟩⟩
    · exact hC.kf (S := fun _ _ => False) (((((Kf.refl _ _).alloc _).alloc _).alloc _).alloc _) (fun h => h) (fun _ _ _ h => h)
    · exact ((((Kf.refl _ _).alloc _).alloc _).alloc _).alloc _
    · exact (four_allocs _ _ _ _ _).2.2.1
    · exact (four_allocs _ _ _ _ _).1
    · exact (four_allocs _ _ _ _ _).2.1
  case round =>
    obtain ⟨f, p, ln, opn, acc, ov, v', hrel⟩ := hrel
    have HRL := Lib.hid hrel
    have hv := hR.v _ _ hrel.r
    have hpos := posOf_scn hrel.scn
    have HP1 := Lib.hid hpos
    have hfu := hrel.fu
    have hal := hrel.al
    obtain ⟨f', rfl⟩ : ∃ f', f = f' + 1 := ⟨f - 1, by omega⟩
    have HG := Lib.hid (hG.trans (hrel.kf.below (Nat.le_of_lt (by omega)) (fun _ _ h => by omega)))
    have HSK := Lib.hid (hR.sk _ _ hrel.r)
    have HST := Lib.hid (hR.st p opn)
    clear hrel hpos
    go_wp2_with fail
    refine (next_any E V w0 wr hCM hVS hLO hM hv.1 HSK.out HG.out (by have := hG.size; omega) hs hv.2.1 hv.2.2 HRL.out.scn ⟨rfl, by omega, HRL.out.g⟩).mono ?_
    rintro e w1 ⟨hK1, hP⟩
    have hEQ := HRL.out.eq
    rw [Lx.toks] at hEQ
    have hb1 := HRL.out.scn.lt
    have HKW := Lib.hid (HRL.out.kf.trans (hK1.weaken (fun k _ _ h => Nat.le_trans (by omega) h.1)))
    have hpa1 : w1.heap[w.heap.size]? = some (.cells #[.int .i64 0] 3 (0, 0)) := hK1.block _ _ HRL.out.pa (fun h => by have := h.1; omega)
    have hpe1 : w1.heap[w.heap.size + 1]? = some (.cells #[.int .i64 0] 25 (0, 0)) := hK1.block _ _ HRL.out.pe (fun h => by have := h.1; omega)
    have hg1 : w1.heap[w.heap.size + 1 + 1]? = some (.cells signCells 9 (0, 0)) := hK1.block _ _ HRL.out.g (fun h => by have := h.1; omega)
    have hsz1 := hK1.size
    cases hnx : Lx.next E s.data.toList p opn with
    | error a =>
      rw [hnx] at hP hEQ
      subst hP
      have HEQ := Lib.hid hEQ
      clear hEQ
      unfold wrongAt
      refine leaves_cons (f := 33) (args := #[.pointer (some ⟨w.heap.size, 0, none⟩), .pointer (some ⟨w.heap.size + 1, 0, none⟩)]) (by simp) (by simp [go_sem]) ?_
      have hm1 : (w1.alloc (.cells #[.int .i64 a] 62)).heap[w.heap.size]? = some (.cells #[.int .i64 0] 3 (0, 0)) := by rw [Below.heap_alloc _ _ _ (by omega)]; exact hpa1
      have hm2 : (w1.alloc (.cells #[.int .i64 a] 62)).heap[w.heap.size + 1]? = some (.cells #[.int .i64 0] 25 (0, 0)) := by rw [Below.heap_alloc _ _ _ (by omega)]; exact hpe1
      obtain ⟨t1, t2, t3, t4, t5, t6⟩ := two_cells hm1 hm2 (.int .i64 a) (.int .i64 50)
      refine (catch_panicking ⟨w.heap.size, 0, none⟩ ⟨w.heap.size + 1, 0, none⟩ a [] w1 (.int .i64 0) (.int .i64 0) t1 t2 t3 t4).mono ?_
      rintro e u' w2 ⟨rfl, rfl, rfl⟩
      refine ⟨.tuple #[.int .i64 a, .int .i64 50], ?_, ?_, ?_⟩
      · simp [results, Tryz.results23, go_sem, t5, t6]
      · exact ((HKW.out.alloc _).set (a := ⟨w.heap.size, 0, none⟩) (fun _ _ => by simp only; omega) _).set (a := ⟨w.heap.size + 1, 0, none⟩) (fun _ _ => by simp only; omega) _
      · rw [← HEQ.out]
    | ok r =>
      obtain ⟨t, q, opn'⟩ := r
      rw [hnx] at hP hEQ
      obtain ⟨ov1, he, hS1⟩ := hP
      subst he
      have HS1 := Lib.hid hS1
      have HEQ := Lib.hid hEQ
      clear hS1 hEQ
      have HR := Lib.hid (heap_alloc_new w1 (.cells tok0 31))
      have HROW := Lib.hid (setRow_heap (w1.alloc (.cells tok0 31)) w1.heap.size _ #[.int .i64 t.tk.kind, .string ⟨t.tk.text.toArray⟩, .string ⟨t.tk.str.toArray⟩, .float .f64 t.tk.num, .int .i64 t.frm, .int .i64 t.till, .bool t.line] 31 (0, 0) HR.out)
      go_wp2_with (first | (refine wpList_store_row rfl 31 (.tmp 7) (.tmp 14) rfl w1.heap.size #[.int .i64 t.tk.kind, .string ⟨t.tk.text.toArray⟩, .string ⟨t.tk.str.toArray⟩, .float .f64 t.tk.num, .int .i64 t.frm, .int .i64 t.till, .bool t.line] rfl rfl 31 tok0 HR.out size31 rfl (tok_one _ _ _ _ _ _ _) ?_) | (refine wpList_load_row rfl 31 (.tmp 7) rfl w1.heap.size rfl 31 _ (0, 0) (.struct fs) HROW.out hd rfl size31 ?_))
      have HK2 := Lib.hid (show Kf (Sp (w.heap.size + 1 + 1 + 1)) wr ((w1.alloc (.cells tok0 31)).setRow w1.heap.size #[.int .i64 t.tk.kind, .string ⟨t.tk.text.toArray⟩, .string ⟨t.tk.str.toArray⟩, .float .f64 t.tk.num, .int .i64 t.frm, .int .i64 t.till, .bool t.line]) from hK1.trans (((Kf.refl _ _).alloc _).setRowNew (Nat.le_refl _) _))
      have HC2 := Lib.hid (HRL.out.cap.kf HK2.out (fun h => by have := h.1; omega) (fun _ _ _ h => h.2 (by simp [Calm])))
      have HS2 := Lib.hid ((HS1.out.alloc (.cells tok0 31)).setRow HR.out #[.int .i64 t.tk.kind, .string ⟨t.tk.text.toArray⟩, .string ⟨t.tk.str.toArray⟩, .float .f64 t.tk.num, .int .i64 t.frm, .int .i64 t.till, .bool t.line])
      go_wp2_with fail
      refine (yield_any _ t HC2.out (by omega)).mono ?_
      rintro e w3 ⟨rfl, ⟨v3, hC3⟩, hK3⟩
      have hrow3 : w3.heap[w1.heap.size]? = _ := hK3.block _ _ HROW.out (fun h => by
        rcases h with h | h
        · omega
        · have := (HRL.out.cap.lt _ h.1.symm).2; have := HRL.out.scn.lt; omega)
      have HK3 := Lib.hid hK3
      have HC3 := Lib.hid hC3
      have k0 : w3.cell? ⟨w1.heap.size, 0, none⟩ = some (.int .i64 t.tk.kind) := by rw [cellN hrow3 0]; rfl
      have hpa3 : w3.heap[w.heap.size]? = some (.cells #[.int .i64 0] 3 (0, 0)) := hK3.block _ _ (HK2.out.block _ _ HRL.out.pa (fun h => by have := h.1; omega)) (fun h => by
        rcases h with h | ⟨_, _, _, _, h⟩
        · omega
        · injection h with _ h _; exact absurd h (by decide))
      have hpe3 : w3.heap[w.heap.size + 1]? = some (.cells #[.int .i64 0] 25 (0, 0)) := hK3.block _ _ (HK2.out.block _ _ HRL.out.pe (fun h => by have := h.1; omega)) (fun h => by
        rcases h with h | ⟨_, _, _, _, h⟩
        · omega
        · injection h with _ h _; exact absurd h (by decide))
      have HKX := Lib.hid ((HRL.out.kf.trans (HK2.out.weaken (fun k _ _ h => Nat.le_trans (by omega) h.1))).trans (HK3.out.weaken (S' := fun k _ => c ≤ k) (fun k _ _ h => by
        rcases h with h | ⟨_, h, _⟩ <;> omega)))
      clear hK3 hC3 hrow3
      by_cases hk0 : t.tk.kind = 0
      · have hkb : ((t.tk.kind : Int) == 0) = true := by simp [hk0]
        obtain ⟨t1, t2, t3, t4, t5, t6⟩ := two_cells hpa3 hpe3 (.int .i64 0) (.int .i64 0)
        go_wp2_with fail
        refine leaves_cons (f := 33) (args := #[.pointer (some ⟨w.heap.size, 0, none⟩), .pointer (some ⟨w.heap.size + 1, 0, none⟩)]) (by simp) (by simp [go_sem]) ?_
        refine (catch_idle ⟨w.heap.size, 0, none⟩ ⟨w.heap.size + 1, 0, none⟩ _).mono ?_
        rintro e u' w4 ⟨rfl, rfl, rfl⟩
        refine ⟨.tuple #[.int .i64 0, .int .i64 0], ?_, ?_, ?_⟩
        · simp [results, Tryz.results23, go_sem, t5, t6]
        · exact (HKX.out.set (a := ⟨w.heap.size, 0, none⟩) (fun _ _ => by simp only; omega) _).set (a := ⟨w.heap.size + 1, 0, none⟩) (fun _ _ => by simp only; omega) _
        · rw [← HEQ.out]
          simp only [hk0, if_true]
          refine ⟨trivial, v3, (HC3.out.setCell hpa3 (by decide) (by omega) _).setCell (k := w.heap.size + 1) (cs := #[.int .i64 0]) (T := 25) ?_ (by decide) (by omega) _⟩
          rw [Below.heap_setCell _ _ _ _ (by simp)]; exact hpe3
      · have hkb : ((t.tk.kind : Int) == 0) = false := by simp [hk0]
        go_wp2_with fail
        obtain ⟨hRq, hpq⟩ := HST.out t q opn' HRL.out.r hnx hk0
        have hvq := hR.v _ _ hRq
        have hS3 : Scn (w.heap.size + 1 + 1 + 1) s (.slice (some ⟨w.heap.size + 1 + 1, 0, none⟩) Lx.signs.length Lx.signs.length) q t.line ov1 opn' w3 := HS2.out.kf HK3.out (fun _ h => by
          rcases h with h | ⟨_, _, _, _, h⟩
          · omega
          · injection h with _ h _; exact absurd h (by decide)) (fun _ _ _ h => by
          rcases h with h | ⟨_, _, _, _, h⟩
          · omega
          · injection h with _ h _; exact absurd h (by decide))
        refine ⟨⟨f', q, t.line, opn', acc ++ [t], ov1, v3, by omega, by simp; omega, hRq, hS3, HC3.out, HKX.out, ?_, hpa3, hpe3, ?_⟩, ?_⟩
        · exact HK3.out.block _ _ (HK2.out.block _ _ HRL.out.g (fun h => by have := h.1; omega)) (fun h => by
            rcases h with h | ⟨_, _, _, _, h⟩
            · omega
            · injection h with _ h _; exact absurd h (by decide))
        · rw [← HEQ.out]
          simp only [hk0, if_false]
        · rw [posOf_scn hS3, HP1.out]; have := hv.2.1; omega
end Go.Proofs.YtcgibcjpkhefpaaGreatDoor

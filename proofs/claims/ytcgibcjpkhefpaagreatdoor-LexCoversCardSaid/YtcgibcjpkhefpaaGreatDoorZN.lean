/-
  atof64 (156), parseFloatPrefix (129) and internal ParseFloat (110) at any decimal text: some float, some known error.
  digits.float (104) at any text of bytes below 128 without an underscore, given that ParseFloat answers decimal texts.
-/
import Derived.Test.YtcgibcjpkhefpaaGreatDoorZE3
import Derived.Test.YtcgibcjpkhefpaaGreatDoorZK
namespace Go.Proofs.YtcgibcjpkhefpaaGreatDoor
open Go.RowKit
/-- The laid tables that the reading of floats wants. -/
structure Tabs (w : World) : Prop where
  opt : w.cell? ⟨10, 0, none⟩ = some (.bool true)
  fi : FI w
  pw : PW w
  pt : ∃ g o c, PT g o c w ∧ g < w.heap.size
  lc : ∃ g o c, LC g o c w ∧ g < w.heap.size
  px : ∃ g o c, PX g o c w ∧ g < w.heap.size
  sz : 18 < w.heap.size
theorem Tabs.keep {w w' : World} (h : Tabs w) (hb : Below w.heap.size w w') : Tabs w' := by
  have hs := h.sz
  have hs' := hb.size
  have C : ∀ (b i : Nat) (v : Value), b < w.heap.size → w.cell? ⟨b, i, none⟩ = some v → w'.cell? ⟨b, i, none⟩ = some v := fun b i v hlt hc => by rw [hb.cell (p := ⟨b, i, none⟩) hlt]; exact hc
  refine ⟨C 10 0 _ (by omega) h.opt, ⟨C 11 0 _ (by omega) h.fi.a, C 11 1 _ (by omega) h.fi.b, C 11 2 _ (by omega) h.fi.c⟩, h.pw.keep hb (by omega), ?_, ?_, ?_, by omega⟩
  · obtain ⟨g, o, c, h1, h2⟩ := h.pt
    exact ⟨g, o, c, ⟨C 15 0 _ (by omega) h1.v, fun i hi => by obtain ⟨n, a, b, c⟩ := h1.a i hi; exact ⟨n, a, b, C g _ _ h2 c⟩⟩, by omega⟩
  · obtain ⟨g, o, c, h1, h2⟩ := h.lc
    exact ⟨g, o, c, ⟨C 18 0 _ (by omega) h1.v, fun k hk => C g _ _ h2 (h1.a k hk), fun k hk => C g _ _ h2 (h1.b k hk)⟩, by omega⟩
  · obtain ⟨g, o, c, h1, h2⟩ := h.px
    exact ⟨g, o, c, ⟨C 16 0 _ (by omega) h1.v, fun i hi => by obtain ⟨x, a, b⟩ := h1.a i hi; exact ⟨x, a, C g _ _ h2 b⟩⟩, by omega⟩
def ErrOk (v : Value) : Prop := v = .nilIface ∨ v = .iface 165 (.int .i64 1) ∨ v = .iface 165 (.int .i64 2)
/-- A float, a length, an error. -/
def AtPost (t : ByteArray) (w : World) (e : Ending) (w' : World) : Prop := (∃ (v n : Nat) (x : Value), e = .returned (.tuple #[.float .f64 v, .int .i64 n, x]) ∧ ErrOk x ∧ n ≤ t.size) ∧ Below w.heap.size w w'
theorem rep_get (n : Nat) (a : Value) (t : List Value) (i : Nat) (hi : i < n) : (List.replicate n a ++ t).toArray[i]? = some a := by
  rw [List.getElem?_toArray, List.getElem?_append_left (by simpa using hi), List.getElem?_replicate, if_pos hi]
theorem rep_get2 (n : Nat) (a : Value) (t : List Value) (j : Nat) : (List.replicate n a ++ t).toArray[n + j]? = t[j]? := by
  rw [List.getElem?_toArray, List.getElem?_append_right (by simp)]
  simp
theorem rep_size (n : Nat) (a : Value) (t : List Value) : (List.replicate n a ++ t).toArray.size = n + t.length := by simp
set_option maxRecDepth 100000 in
theorem zero213 : Tryz.zeroCells213 = (List.replicate 800 (Value.int .u8 0) ++ [Value.int .i64 0, Value.int .i64 0, Value.bool false, Value.bool false]).toArray := by kernel_rfl
theorem dz_new (w : World) : DZ w.heap.size 0 (fun _ => 0) 0 false (w.alloc (.cells Tryz.zeroCells213 213)) := by
  refine ⟨⟨⟨Tryz.zeroCells213, heap_alloc_new w _, ?_, ?_, ?_, ?_, ?_, ?_⟩, by omega⟩, fun i hi => by omega, fun i _ => by omega, fun h => by omega⟩
  · rw [zero213, rep_size]; rfl
  · intro i hi
    rw [zero213, rep_get _ _ _ _ hi]; rfl
  · rw [zero213]; exact rep_get2 800 _ _ 0
  · rw [zero213]; exact rep_get2 800 _ _ 1
  · rw [zero213]; exact rep_get2 800 _ _ 2
  · rw [zero213]; exact rep_get2 800 _ _ 3
/-- floatBits of whatever set has left. -/
theorem fbits_any {D nd : Nat} {dp : Int} {x : Nat → Nat} {tr : Bool} {w : World} (h : DZ D dp x nd tr w) (hT : Tabs w) (hD : 18 < D) (_hg : ∀ g, (∃ o c, PT g o c w ∨ LC g o c w) → True) (hgp : ∃ g o c, PT g o c w ∧ g ≠ D) (hgl : ∃ g o c, LC g o c w ∧ g ≠ D) :
    Calls Tryz.prog 174 #[.pointer (some ⟨D, 0, none⟩), .pointer (some ⟨11, 0, none⟩)] w (BitsPost D w) := by
  rcases Nat.eq_zero_or_pos nd with rfl | hn
  · exact fbits_zero w h.dc hT.fi hD
  by_cases h1 : 310 < dp
  · exact fbits_over w hn h.dc h1 hT.fi hD
  by_cases h2 : dp < -330
  · exact fbits_under w hn h.dc h2 hT.fi hD
  obtain ⟨g2, o2, c2, hp, hne2⟩ := hgp
  obtain ⟨g, o, c, hl, hne⟩ := hgl
  exact fbits_main w (h.ok hn) (by omega) hT.fi hp hl hD hne hne2
set_option maxHeartbeats 2000000 in
set_option maxRecDepth 100000 in
theorem special_num (t : ByteArray) (w : World) (h : NumTxt t) : Calls Tryz.prog 166 #[.string t] w fun e w' => e = .returned (.tuple #[.float .f64 0, .int .i64 0, .bool false]) ∧ w' = w := by
  have hs2 := h.s2
  have hp0 : 0 < t.size := by omega
  have e0 : (t[0]'hp0).toNat = 48 := by rw [h.b0 hp0]; rfl
  have hne : ¬ t = ByteArray.empty := by rintro rfl; simp at hp0
  have hne2 : decide (t = ByteArray.empty) = false := by simp [hne]
  have b0n : (t.size == 0) = false := beq_eq_false_iff_ne.2 (by omega)
  clear h
  go_enter Tryz.func166, Tryz.ntmps166
  go_wp2
  exact bodyPost_ret (v := .tuple #[.float .f64 0, .int .i64 0, .bool false]) (by simp [results, Tryz.results166]) rfl ⟨rfl, rfl⟩
set_option maxHeartbeats 8000000 in
set_option maxRecDepth 100000 in
theorem atof_any (t : ByteArray) (w : World) (h : NumTxt t) (hT : Tabs w) : Calls Tryz.prog 156 #[.string t] w (AtPost t w) := by
  have HT := Lib.hid hT
  have H := Lib.hid h
  have o1 := hT.opt
  have hfb := run_frombits
  clear hT h
  go_enter Tryz.func156, Tryz.ntmps156
  go_wp2_with fail
  refine (special_num t _ H.out).mono ?_
  rintro e w1 ⟨rfl, rfl⟩
  go_wp2_with fail
  refine (rf_any t _ H.out).mono ?_
  rintro e w1 ⟨⟨m, p, tr, ok, n, hm, hn, rfl⟩, rfl⟩
  cases ok
  · go_wp2
    first
    | exact bodyPost_ret (v := .tuple #[.float .f64 _, .int .i64 n, .nilIface]) (by simp [results, Tryz.results156]; rfl) rfl ⟨⟨_, n, _, rfl, Or.inl rfl, hn⟩, Below.refl _ _⟩
    | exact bodyPost_ret (v := .tuple #[.float .f64 _, .int .i64 n, .iface 165 (.int .i64 1)]) (by simp [results, Tryz.results156]; rfl) rfl ⟨⟨_, n, _, rfl, Or.inr (Or.inl rfl), hn⟩, Below.refl _ _⟩
    | exact bodyPost_ret (v := .tuple #[.float .f64 _, .int .i64 n, .iface 165 (.int .i64 2)]) (by simp [results, Tryz.results156]; rfl) rfl ⟨⟨_, n, _, rfl, Or.inr (Or.inr rfl), hn⟩, Below.refl _ _⟩
    | exact bodyPost_ret (v := .tuple #[.float .f64 0, .int .i64 n, .iface 165 (.int .i64 2)]) (by simp [results, Tryz.results156]) rfl ⟨⟨_, n, _, rfl, Or.inr (Or.inr rfl), hn⟩, Below.refl _ _⟩
  go_wp2_with fail
  refine (bool2u false _).mono ?_
  rintro e w2 ⟨rfl, rfl⟩
  simp only [Bool.false_eq_true, if_false]
  by_cases hm0 : m = 0
  · subst hm0
    go_wp2_with fail
    first
    | exact bodyPost_ret (v := .tuple #[.float .f64 _, .int .i64 n, .nilIface]) (by simp [results, Tryz.results156]; rfl) rfl ⟨⟨_, n, _, rfl, Or.inl rfl, hn⟩, Below.refl _ _⟩
    | exact bodyPost_ret (v := .tuple #[.float .f64 _, .int .i64 n, .iface 165 (.int .i64 1)]) (by simp [results, Tryz.results156]; rfl) rfl ⟨⟨_, n, _, rfl, Or.inr (Or.inl rfl), hn⟩, Below.refl _ _⟩
    | exact bodyPost_ret (v := .tuple #[.float .f64 _, .int .i64 n, .iface 165 (.int .i64 2)]) (by simp [results, Tryz.results156]; rfl) rfl ⟨⟨_, n, _, rfl, Or.inr (Or.inr rfl), hn⟩, Below.refl _ _⟩
    | exact bodyPost_ret (v := .tuple #[.float .f64 0, .int .i64 n, .iface 165 (.int .i64 2)]) (by simp [results, Tryz.results156]) rfl ⟨⟨_, n, _, rfl, Or.inr (Or.inr rfl), hn⟩, Below.refl _ _⟩
  have b0 : (m == 0) = false := by simp; omega
  have b0I : ((m : Int) == 0) = false := by simp; omega
  by_cases hp1 : 310 < p
  · have b1 : decide (310 < p) = true := by simp; omega
    go_wp2_with fail
    first
    | exact bodyPost_ret (v := .tuple #[.float .f64 _, .int .i64 n, .nilIface]) (by simp [results, Tryz.results156]; rfl) rfl ⟨⟨_, n, _, rfl, Or.inl rfl, hn⟩, Below.refl _ _⟩
    | exact bodyPost_ret (v := .tuple #[.float .f64 _, .int .i64 n, .iface 165 (.int .i64 1)]) (by simp [results, Tryz.results156]; rfl) rfl ⟨⟨_, n, _, rfl, Or.inr (Or.inl rfl), hn⟩, Below.refl _ _⟩
    | exact bodyPost_ret (v := .tuple #[.float .f64 _, .int .i64 n, .iface 165 (.int .i64 2)]) (by simp [results, Tryz.results156]; rfl) rfl ⟨⟨_, n, _, rfl, Or.inr (Or.inr rfl), hn⟩, Below.refl _ _⟩
    | exact bodyPost_ret (v := .tuple #[.float .f64 0, .int .i64 n, .iface 165 (.int .i64 2)]) (by simp [results, Tryz.results156]) rfl ⟨⟨_, n, _, rfl, Or.inr (Or.inr rfl), hn⟩, Below.refl _ _⟩
  have b1 : decide (310 < p) = false := by simp; omega
  by_cases hp2 : p < -345
  · have b2 : decide (p < -345) = true := by simp; omega
    go_wp2_with fail
    first
    | exact bodyPost_ret (v := .tuple #[.float .f64 _, .int .i64 n, .nilIface]) (by simp [results, Tryz.results156]; rfl) rfl ⟨⟨_, n, _, rfl, Or.inl rfl, hn⟩, Below.refl _ _⟩
    | exact bodyPost_ret (v := .tuple #[.float .f64 _, .int .i64 n, .iface 165 (.int .i64 1)]) (by simp [results, Tryz.results156]; rfl) rfl ⟨⟨_, n, _, rfl, Or.inr (Or.inl rfl), hn⟩, Below.refl _ _⟩
    | exact bodyPost_ret (v := .tuple #[.float .f64 _, .int .i64 n, .iface 165 (.int .i64 2)]) (by simp [results, Tryz.results156]; rfl) rfl ⟨⟨_, n, _, rfl, Or.inr (Or.inr rfl), hn⟩, Below.refl _ _⟩
    | exact bodyPost_ret (v := .tuple #[.float .f64 0, .int .i64 n, .iface 165 (.int .i64 2)]) (by simp [results, Tryz.results156]) rfl ⟨⟨_, n, _, rfl, Or.inr (Or.inr rfl), hn⟩, Below.refl _ _⟩
  have b2 : decide (p < -345) = false := by simp; omega
  have hs18 := HT.out.sz
  cases tr
  · obtain ⟨gx, ox, cx, hpx, _⟩ := HT.out.px
    have HPX := Lib.hid hpx
    clear hpx
    go_wp2_with fail
    refine (exact_any m p gx ox cx _ HPX.out HT.out.fi.a (by omega)).mono ?_
    rintro e w3 ⟨⟨v, b, rfl⟩, rfl⟩
    cases b
    · go_wp2_with fail
      refine (pf64_any m 0 p _ hm (by omega) (by omega) HT.out.pw (by omega)).mono ?_
      rintro e w4 ⟨⟨v2, rfl | rfl⟩, hb4⟩
      · go_wp2_with fail
        first
        | exact bodyPost_ret (v := .tuple #[.float .f64 _, .int .i64 n, .nilIface]) (by simp [results, Tryz.results156]; rfl) rfl ⟨⟨_, n, _, rfl, Or.inl rfl, hn⟩, hb4⟩
        | exact bodyPost_ret (v := .tuple #[.float .f64 _, .int .i64 n, .iface 165 (.int .i64 1)]) (by simp [results, Tryz.results156]; rfl) rfl ⟨⟨_, n, _, rfl, Or.inr (Or.inl rfl), hn⟩, hb4⟩
        | exact bodyPost_ret (v := .tuple #[.float .f64 _, .int .i64 n, .iface 165 (.int .i64 2)]) (by simp [results, Tryz.results156]; rfl) rfl ⟨⟨_, n, _, rfl, Or.inr (Or.inr rfl), hn⟩, hb4⟩
        | exact bodyPost_ret (v := .tuple #[.float .f64 0, .int .i64 n, .iface 165 (.int .i64 2)]) (by simp [results, Tryz.results156]) rfl ⟨⟨_, n, _, rfl, Or.inr (Or.inr rfl), hn⟩, hb4⟩
      · go_wp2_with fail
        first
        | exact bodyPost_ret (v := .tuple #[.float .f64 _, .int .i64 n, .nilIface]) (by simp [results, Tryz.results156]; rfl) rfl ⟨⟨_, n, _, rfl, Or.inl rfl, hn⟩, hb4⟩
        | exact bodyPost_ret (v := .tuple #[.float .f64 _, .int .i64 n, .iface 165 (.int .i64 1)]) (by simp [results, Tryz.results156]; rfl) rfl ⟨⟨_, n, _, rfl, Or.inr (Or.inl rfl), hn⟩, hb4⟩
        | exact bodyPost_ret (v := .tuple #[.float .f64 _, .int .i64 n, .iface 165 (.int .i64 2)]) (by simp [results, Tryz.results156]; rfl) rfl ⟨⟨_, n, _, rfl, Or.inr (Or.inr rfl), hn⟩, hb4⟩
        | exact bodyPost_ret (v := .tuple #[.float .f64 0, .int .i64 n, .iface 165 (.int .i64 2)]) (by simp [results, Tryz.results156]) rfl ⟨⟨_, n, _, rfl, Or.inr (Or.inr rfl), hn⟩, hb4⟩
    · go_wp2_with fail
      first
      | exact bodyPost_ret (v := .tuple #[.float .f64 _, .int .i64 n, .nilIface]) (by simp [results, Tryz.results156]; rfl) rfl ⟨⟨_, n, _, rfl, Or.inl rfl, hn⟩, Below.refl _ _⟩
      | exact bodyPost_ret (v := .tuple #[.float .f64 _, .int .i64 n, .iface 165 (.int .i64 1)]) (by simp [results, Tryz.results156]; rfl) rfl ⟨⟨_, n, _, rfl, Or.inr (Or.inl rfl), hn⟩, Below.refl _ _⟩
      | exact bodyPost_ret (v := .tuple #[.float .f64 _, .int .i64 n, .iface 165 (.int .i64 2)]) (by simp [results, Tryz.results156]; rfl) rfl ⟨⟨_, n, _, rfl, Or.inr (Or.inr rfl), hn⟩, Below.refl _ _⟩
      | exact bodyPost_ret (v := .tuple #[.float .f64 0, .int .i64 n, .iface 165 (.int .i64 2)]) (by simp [results, Tryz.results156]) rfl ⟨⟨_, n, _, rfl, Or.inr (Or.inr rfl), hn⟩, Below.refl _ _⟩
  go_wp2_with fail
  refine (pf64_any m 0 p _ hm (by omega) (by omega) HT.out.pw (by omega)).mono ?_
  rintro e w4 ⟨⟨v2, he⟩, hb4⟩
  have HB4 := Lib.hid hb4
  have hs4 := hb4.size
  obtain ⟨x2, hx2, rfl⟩ : ∃ x, ErrOk x ∧ e = .returned (.tuple #[.float .f64 v2, x]) := by
    rcases he with he | he
    · exact ⟨_, Or.inl rfl, he⟩
    · exact ⟨_, Or.inr (Or.inl rfl), he⟩
  have HX2 := Lib.hid hx2
  obtain ⟨m1, hm1, hm1e⟩ := wrap_num ((m : Int) + 1)
  clear hb4 he hx2
  go_wp2_with fail
  refine (pf64_any m1 0 p _ hm1 (by omega) (by omega) (HT.out.keep HB4.out).pw (by omega)).mono ?_
  rintro e w5 ⟨⟨v3, he⟩, hb5⟩
  have HB5 := Lib.hid (HB4.out.trans (hb5.mono hs4))
  have hs5 := hb5.size
  obtain ⟨x3, rfl⟩ : ∃ x, e = .returned (.tuple #[.float .f64 v3, x]) := by
    rcases he with he | he
    · exact ⟨_, he⟩
    · exact ⟨_, he⟩
  clear hb5 he
  generalize hEQ : (FloatKind.f64.format.order v2 v3 == some .eq) = Q at *
  go_wp2_with fail
  · exact bodyPost_ret (v := .tuple #[.float .f64 v2, .int .i64 n, x2]) (by simp [results, Tryz.results156]) rfl ⟨⟨_, n, _, rfl, HX2.out, hn⟩, HB5.out⟩
  · have hbA : Below w5.heap.size w5 (w5.alloc (.cells Tryz.zeroCells213 213)) := (Below.refl _ _).alloc (Nat.le_refl _) _
    have HBA := Lib.hid hbA
    clear hbA
    have hns : (t.extract 0 n).size = n := by simp [ByteArray.size_extract]; omega
    refine (set_any _ (t.extract 0 n) (by have := H.out.sz; omega) ?_ (dz_new w5)).mono ?_
    · intro h
      have hp0 : 0 < t.size := by omega
      have := H.out.b0 hp0
      rw [ByteArray.getElem_extract]
      simpa using this
    rintro e w6 ⟨⟨b, rfl⟩, hK6, dp6, x6, nd6, tr6, hZ⟩
    have HB6 := Lib.hid (HB5.out.trans ((HBA.out.trans (hK6.below (B := w5.heap.size) HBA.out.size (fun k o e => by have e : k = _ := e; omega))).mono HB5.out.size))
    cases b
    · go_wp2_with fail
      exact bodyPost_ret (v := .tuple #[.float .f64 0, .int .i64 n, .iface 165 (.int .i64 2)]) (by simp [results, Tryz.results156]) rfl ⟨⟨_, n, _, rfl, Or.inr (Or.inr rfl), hn⟩, HB6.out⟩
    have HT6 := Lib.hid (HT.out.keep HB6.out)
    have HFB := Lib.hid (show Calls Tryz.prog 174 #[.pointer (some ⟨w5.heap.size, 0, none⟩), .pointer (some ⟨11, 0, none⟩)] w6 (BitsPost w5.heap.size w6) from by
      have hT5 := HT.out.keep HB5.out
      have hb56 : Below w5.heap.size w5 w6 := HBA.out.trans (hK6.below (B := w5.heap.size) HBA.out.size (fun k o e => by have e : k = _ := e; omega))
      have C : ∀ (b i : Nat) (v : Value), b < w5.heap.size → w5.cell? ⟨b, i, none⟩ = some v → w6.cell? ⟨b, i, none⟩ = some v := fun b i v hlt hc => by rw [hb56.cell (p := ⟨b, i, none⟩) hlt]; exact hc
      have hs := hT5.sz
      refine fbits_any hZ HT6.out (by omega) (fun _ _ => trivial) ?_ ?_
      · obtain ⟨g, o, c, h1, h2⟩ := hT5.pt
        exact ⟨g, o, c, ⟨C 15 0 _ (by omega) h1.v, fun i hi => by obtain ⟨n, a, b, c⟩ := h1.a i hi; exact ⟨n, a, b, C g _ _ h2 c⟩⟩, by omega⟩
      · obtain ⟨g, o, c, h1, h2⟩ := hT5.lc
        exact ⟨g, o, c, ⟨C 18 0 _ (by omega) h1.v, fun k hk => C g _ _ h2 (h1.a k hk), fun k hk => C g _ _ h2 (h1.b k hk)⟩, by omega⟩)
    clear hZ hK6
    go_wp2_with fail
    refine HFB.out.mono ?_
    rintro e w7 ⟨⟨nb, ob, rfl⟩, hK7⟩
    have HB7 := Lib.hid (HB6.out.trans (hK7.below (B := w2.heap.size) HB6.out.size (fun k o e => by have e : k = _ := e; omega)))
    clear hK7
    cases ob
    · go_wp2_with fail
      first
      | exact bodyPost_ret (v := .tuple #[.float .f64 _, .int .i64 n, .nilIface]) (by simp [results, Tryz.results156]; rfl) rfl ⟨⟨_, n, _, rfl, Or.inl rfl, hn⟩, HB7.out⟩
      | exact bodyPost_ret (v := .tuple #[.float .f64 _, .int .i64 n, .iface 165 (.int .i64 1)]) (by simp [results, Tryz.results156]; rfl) rfl ⟨⟨_, n, _, rfl, Or.inr (Or.inl rfl), hn⟩, HB7.out⟩
      | exact bodyPost_ret (v := .tuple #[.float .f64 0, .int .i64 n, .iface 165 (.int .i64 2)]) (by simp [results, Tryz.results156]) rfl ⟨⟨_, n, _, rfl, Or.inr (Or.inr rfl), hn⟩, HB7.out⟩
    · go_wp2_with fail
      first
      | exact bodyPost_ret (v := .tuple #[.float .f64 _, .int .i64 n, .nilIface]) (by simp [results, Tryz.results156]; rfl) rfl ⟨⟨_, n, _, rfl, Or.inl rfl, hn⟩, HB7.out⟩
      | exact bodyPost_ret (v := .tuple #[.float .f64 _, .int .i64 n, .iface 165 (.int .i64 1)]) (by simp [results, Tryz.results156]; rfl) rfl ⟨⟨_, n, _, rfl, Or.inr (Or.inl rfl), hn⟩, HB7.out⟩
      | exact bodyPost_ret (v := .tuple #[.float .f64 0, .int .i64 n, .iface 165 (.int .i64 2)]) (by simp [results, Tryz.results156]) rfl ⟨⟨_, n, _, rfl, Or.inr (Or.inr rfl), hn⟩, HB7.out⟩
end Go.Proofs.YtcgibcjpkhefpaaGreatDoor
namespace Go.Proofs.YtcgibcjpkhefpaaGreatDoor
open Go.RowKit
/-- strconv.ParseFloat answers every decimal text, in every world above w0. -/
def PfOk (w0 : World) : Prop := ∀ (t : ByteArray) (w : World), NumTxt t → Below w0.heap.size w0 w → Calls Tryz.prog 84 #[.string t, .int .i64 64] w fun e w' => (∃ (v : Nat) (x : Value), e = .returned (.tuple #[.float .f64 v, x])) ∧ Below w.heap.size w w'
/-- digits.signed (123) at any text. -/
def SigPost (t : ByteArray) (w : World) (e : Ending) (w' : World) : Prop := (∃ u : ByteArray, u.size ≤ t.size ∧ (e = .returned (.tuple #[.float .f64 4607182418800017408, .string u]) ∨ e = .returned (.tuple #[.float .f64 13830554455654793216, .string u]))) ∧ ∃ k, w' = w.drewN k
theorem trimPrefix_le (l p : List UInt8) : (Lib.trimPrefix l p).length ≤ l.length := by
  unfold Lib.trimPrefix
  split <;> simp
theorem toList_emp {t : ByteArray} (h : 0 < t.size) : t.toList.isEmpty = false := by
  cases hx : t.toList.isEmpty with
  | false => rfl
  | true =>
    have h1 : t.toList = [] := by simpa using hx
    have h2 : t.toList.length = t.size := by rw [Lib.toList_data]; simp
    rw [h1] at h2; simp at h2; omega
theorem signed_any (t : ByteArray) (w : World) : Calls Tryz.prog 123 #[.string t] w (SigPost t w) := by
  have htl := trimPrefix_le t.data.toList (⟨#[43]⟩ : ByteArray).data.toList
  have hlen : t.data.toList.length = t.size := by simp
  obtain ⟨U, hU⟩ : ∃ U, (Lib.trimPrefix t.data.toList (⟨#[43]⟩ : ByteArray).data.toList) = U := ⟨_, rfl⟩
  rw [hU, hlen] at htl
  have HT := Lib.hid htl
  have HU := Lib.hid hU
  have hsz : (⟨U.toArray⟩ : ByteArray).size = U.length := by simp [ByteArray.size]
  have HSZ := Lib.hid hsz
  clear htl hU hlen hsz
  by_cases h0 : 0 < t.size
  · have hne := toList_emp h0
    obtain ⟨v, hv⟩ : ∃ v, (t[0]'h0).toNat = v := ⟨_, rfl⟩
    by_cases h45 : v = 45
    · subst h45
      go_enter Tryz.func123, Tryz.ntmps123
      go_wp2
      go_quiet (fail)
      go_wp2
      exact bodyPost_ret (v := .tuple #[.float .f64 13830554455654793216, .string _]) (by simp [results, Tryz.results123]; rfl) rfl ⟨⟨_, by simp [ByteArray.size_extract], Or.inr rfl⟩, _, rfl⟩
    · have e45 : (v == 45) = false := by simp; omega
      have e45I : ((v : Int) == 45) = false := by simp; omega
      go_enter Tryz.func123, Tryz.ntmps123
      go_wp2_with fail
      refine (Tryz.strings_TrimPrefix _ _ _).mono ?_
      rintro e w1 ⟨rfl, rfl⟩
      rw [HU.out]
      go_wp2
      exact bodyPost_ret (v := .tuple #[.float .f64 4607182418800017408, .string _]) (by simp [results, Tryz.results123]; rfl) rfl ⟨⟨_, by rw [HSZ.out]; exact HT.out, Or.inl rfl⟩, 0, rfl⟩
  · have hne : t.toList.isEmpty = true := by
      have h2 : t.toList.length = t.size := by rw [Lib.toList_data]; simp
      cases hx : t.toList with
      | nil => rfl
      | cons a r => rw [hx] at h2; simp at h2; omega
    go_enter Tryz.func123, Tryz.ntmps123
    go_wp2_with fail
    refine (Tryz.strings_TrimPrefix _ _ _).mono ?_
    rintro e w1 ⟨rfl, rfl⟩
    rw [HU.out]
    go_wp2
    exact bodyPost_ret (v := .tuple #[.float .f64 4607182418800017408, .string _]) (by simp [results, Tryz.results123]; rfl) rfl ⟨⟨_, by rw [HSZ.out]; exact HT.out, Or.inl rfl⟩, 0, rfl⟩
end Go.Proofs.YtcgibcjpkhefpaaGreatDoor

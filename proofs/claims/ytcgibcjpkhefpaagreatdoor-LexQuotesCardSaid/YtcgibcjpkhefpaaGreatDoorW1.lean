/-
  Walks of the scanner's small methods: letter, digit, peek, has, newline, blank.
-/
import Derived.Test.YtcgibcjpkhefpaaGreatDoorB0
import Derived.Test.YtcgibcjpkhefpaaGreatDoorShelf
namespace Go.Proofs.YtcgibcjpkhefpaaGreatDoor
open Go.RowKit
theorem ret_bool {a b : Bool} (h : a = b) : Ending.returned (.bool a) = Ending.returned (.bool b) := by rw [h]
theorem ret_int {k : IntKind} {a b : Int} (h : a = b) : Ending.returned (.int k a) = Ending.returned (.int k b) := by rw [h]
theorem ret_str {a b : ByteArray} (h : a = b) : Ending.returned (.string a) = Ending.returned (.string b) := by rw [h]
theorem cellN {w : World} {B : Nat} {c : Array Value} {e : TypeId} (h : w.heap[B]? = some (.cells c e (0,0))) (j : Nat) : w.cell? ⟨B, j, none⟩ = c[j]? := by simp [World.cell?, h]
theorem miss_step {ts : List (List UInt8)} {l : List UInt8} {p k : Nat} {t : List UInt8} (h : ∀ u ∈ ts.take k, Lx.pre u l p = false) (ht : ts[k]? = some t) (hf : Lx.pre t l p = false) : ∀ u ∈ ts.take (k + 1), Lx.pre u l p = false := by
  intro u hu
  rw [List.take_add_one] at hu
  simp only [ht, Option.toList_some, List.mem_append, List.mem_singleton] at hu
  rcases hu with hu | rfl
  · exact h u hu
  · exact hf
theorem first_hit {ts : List (List UInt8)} {l : List UInt8} {p k : Nat} {t : List UInt8} (h : ∀ u ∈ ts.take k, Lx.pre u l p = false) (ht : ts[k]? = some t) (hf : Lx.pre t l p = true) : Lx.firstOf ts l p = some (p + t.length) := by
  induction ts generalizing k with
  | nil => simp at ht
  | cons a ts ih =>
    cases k with
    | zero =>
      simp at ht; subst ht
      simp [Lx.firstOf, hf]
    | succ k =>
      have ha : Lx.pre a l p = false := h a (by simp)
      have := ih (k := k) (fun u hu => h u (by simp [hu])) (by simpa using ht)
      simp only [Lx.firstOf] at this ⊢
      rw [List.find?_cons_of_neg (by simp [ha])]
      exact this
theorem first_none {ts : List (List UInt8)} {l : List UInt8} {p : Nat} (h : ∀ u ∈ ts, Lx.pre u l p = false) : Lx.firstOf ts l p = none := by
  simp only [Lx.firstOf, Option.map_eq_none_iff, List.find?_eq_none]
  intro u hu; simp [h u hu]
theorem pre_le {t l : List UInt8} {p : Nat} (h : Lx.pre t l p = true) (hp : p ≤ l.length) : p + t.length ≤ l.length := by
  simp only [Lx.pre, List.isPrefixOf_iff_prefix] at h
  have := h.length_le
  simp at this; omega
theorem u8_all {P : UInt8 → Prop} (h : ∀ n : Fin 256, P (UInt8.ofNat n.val)) : ∀ c, P c := fun c => by
  have := h ⟨c.toNat, c.toNat_lt⟩
  simpa using this
def letB (n : Int) : Bool := n == 36 || n == 95 || (decide (97 ≤ bits .or .u8 n 32) && decide (bits .or .u8 n 32 ≤ 122))
theorem letB_eq : ∀ c : UInt8, Lx.isLet c = letB c.toNat := u8_all (by decide +kernel)
theorem digB_eq : ∀ c : UInt8, Lx.isDig c = (decide (48 ≤ (c.toNat : Int)) && decide ((c.toNat : Int) ≤ 57)) := u8_all (by decide +kernel)
set_option maxHeartbeats 400000 in
theorem letter_any (c : UInt8) (w : World) :
    Calls Tryz.prog 18 #[.int .u8 c.toNat] w fun e w' => e = .returned (.bool (Lx.isLet c)) ∧ w' = w := by
  rw [letB_eq]
  unfold letB
  go_enter Tryz.func18, Tryz.ntmps18
  go_wp2
  all_goals
    go_ret
    refine ⟨ret_bool ?_, rfl⟩
    simp_all
  omega
set_option maxHeartbeats 400000 in
theorem digit_any (c : UInt8) (w : World) :
    Calls Tryz.prog 19 #[.int .u8 c.toNat] w fun e w' => e = .returned (.bool (Lx.isDig c)) ∧ w' = w := by
  rw [digB_eq]
  go_enter Tryz.func19, Tryz.ntmps19
  go_wp2
  all_goals
    go_ret
    refine ⟨ret_bool ?_, rfl⟩
    simp_all
  omega
section
variable {b : Nat} {s : ByteArray} {lv ov : Value} {p : Nat} {ln : Bool} {opn : List Int}
set_option maxHeartbeats 400000 in
theorem has_any (t : ByteArray) (w : World) (_hs : s.size ≤ 140737488351232) (hp : p ≤ s.size) (h : Scn b s lv p ln ov opn w) :
    Calls Tryz.prog 95 #[.pointer (some ⟨b, 0, none⟩), .string t] w fun e w' => e = .returned (.bool (Lx.pre t.data.toList s.data.toList p)) ∧ ∃ k, w' = w.drewN k := by
  have h0 := h.c0
  have h1 := h.c1
  have hpi : (p : Int) ≤ (s.size : Int) := by omega
  go_enter Tryz.func95, Tryz.ntmps95
  go_wp2
  go_quiet ((go_at_call 115; exact Calls.quiet_of_same (Tryz.strings_HasPrefix _ _ _)))
  go_wp2
  go_ret
  exact ⟨ret_bool (by show Lib.hasPrefix _ _ = _; rw [strExt]; rfl), _, rfl⟩
set_option maxHeartbeats 400000 in
theorem peek_any (n : Nat) (w : World) (hs : s.size ≤ 140737488351232) (hn : n ≤ 8) (hp : p ≤ s.size) (h : Scn b s lv p ln ov opn w) :
    Calls Tryz.prog 78 #[.pointer (some ⟨b, 0, none⟩), .int .i64 n] w fun e w' => e = .returned (.int .u8 (Lx.pk s.data.toList (p + n)).toNat) ∧ ∃ k, w' = w.drewN k := by
  have h0 := h.c0
  have h1 := h.c1
  by_cases hlt : p + n < s.size
  · have hlt' : (p : Int) + (n : Int) < (s.size : Int) := by omega
    have hw : IntKind.i64.wrap ((p : Int) + (n : Int)) = (p : Int) + n := IntWalk.i64_in _ (by omega)
    have hn : 0 ≤ (p : Int) + n := by omega
    have ht : ((p : Int) + n).toNat = p + n := by omega
    go_enter Tryz.func78, Tryz.ntmps78
    go_wp2
    go_quiet (fail)
    go_wp2
    go_quiet (fail)
    go_wp2
    go_ret
    exact ⟨ret_int (by simp [Lx.pk, hlt]; rfl), _, World.drewN_drewN _ _ _⟩
  · have hlt' : (s.size : Int) ≤ (p : Int) + (n : Int) := by omega
    have hw : IntKind.i64.wrap ((p : Int) + (n : Int)) = (p : Int) + n := IntWalk.i64_in _ (by omega)
    have hd : decide ((p : Int) + (n : Int) < (s.size : Int)) = false := by simp; omega
    go_enter Tryz.func78, Tryz.ntmps78
    go_wp2
    go_quiet (fail)
    go_wp2
    go_ret
    exact ⟨ret_int (by simp [Lx.pk, hlt]), _, rfl⟩
set_option maxHeartbeats 1000000 in
theorem newline_any (w : World) (hs : s.size ≤ 140737488351232) (hp : p ≤ s.size) (h : Scn b s lv p ln ov opn w) :
    Calls Tryz.prog 75 #[.pointer (some ⟨b, 0, none⟩)] w fun e w' => e = .returned (.bool (Lx.nl s.data.toList p).isSome) ∧ Kf (So b) w w' ∧ Scn b s lv ((Lx.nl s.data.toList p).getD p) ln ov opn w' := by
  have hlen : s.data.toList.length = s.size := by simp
  go_enter Tryz.func75, Tryz.ntmps75
  go_wp2
  go_loopw [7] (fun i wr => ∃ k : Nat, k ≤ 4 ∧ i = .int .i64 k ∧ Scn b s lv p ln ov opn wr ∧ Kf (So b) w wr ∧ wr.heap[w.heap.size]? = some (.cells #[.string ⟨#[10]⟩, .string ⟨#[13]⟩, .string ⟨#[226, 128, 168]⟩, .string ⟨#[226, 128, 169]⟩] 9 (0, 0)) ∧ ∀ t ∈ Lx.nls.take k, Lx.pre t s.data.toList p = false) (fun i _ => 4 - (intOf i).toNat)
  case atStart => exact ⟨0, by omega, rfl, h.alloc _, (Kf.refl _ _).alloc _, heap_alloc_new _ _, by simp⟩
  case round =>
    obtain ⟨k, hk, rfl, hS, hK, hB, hno⟩ := hrel
    have c := cellN hB
    have h0 := hS.c0
    have h1 := hS.c1
    have f1 := hS.fz 1
    have HN := Lib.hid hno
    have HS := Lib.hid hS
    have HK := Lib.hid hK
    have HB := Lib.hid hB
    clear hno hS hK h hB
    have : k = 0 ∨ k = 1 ∨ k = 2 ∨ k = 3 ∨ k = 4 := by omega
    rcases this with rfl | rfl | rfl | rfl | rfl
    · have ck := c 0
      simp at ck
      clear c
      by_cases hx : Lx.pre [10] s.data.toList p = true
      · have hle : p + 1 ≤ s.size := by have := pre_le hx (by omega); simpa [hlen] using this
        have HX := Lib.hid hx
        clear hx
        go_wp2_with fail
        refine (has_any _ _ hs hp (HS.out)).mono ?_
        rintro e w1 ⟨rfl, n, rfl⟩
        rw [show Lx.pre (⟨#[10]⟩ : ByteArray).data.toList s.data.toList p = true from HX.out]
        go_wp2
        go_ret
        have hf : Lx.nl s.data.toList p = some (p + 1) := first_hit HN.out rfl HX.out
        rw [hf]
        exact ⟨rfl, (HK.out.drewN n).setB 1 _, (HS.out.drewN n).setAt (p + 1)⟩
      · have HX := Lib.hid (show Lx.pre [10] s.data.toList p = false by simpa using hx)
        clear hx
        go_wp2_with fail
        refine (has_any _ _ hs hp (HS.out)).mono ?_
        rintro e w1 ⟨rfl, n, rfl⟩
        rw [show Lx.pre (⟨#[10]⟩ : ByteArray).data.toList s.data.toList p = false from HX.out]
        go_wp2
        go_roundw
        case rel => exact ⟨1, by omega, rfl, HS.out.drewN n, HK.out.drewN n, HB.out, miss_step HN.out rfl HX.out⟩
        case measure => simp [intOf]
    · have ck := c 1
      simp at ck
      clear c
      by_cases hx : Lx.pre [13] s.data.toList p = true
      · have hle : p + 1 ≤ s.size := by have := pre_le hx (by omega); simpa [hlen] using this
        have HX := Lib.hid hx
        clear hx
        go_wp2_with fail
        refine (has_any _ _ hs hp (HS.out)).mono ?_
        rintro e w1 ⟨rfl, n, rfl⟩
        rw [show Lx.pre (⟨#[13]⟩ : ByteArray).data.toList s.data.toList p = true from HX.out]
        go_wp2
        go_ret
        have hf : Lx.nl s.data.toList p = some (p + 1) := first_hit HN.out rfl HX.out
        rw [hf]
        exact ⟨rfl, (HK.out.drewN n).setB 1 _, (HS.out.drewN n).setAt (p + 1)⟩
      · have HX := Lib.hid (show Lx.pre [13] s.data.toList p = false by simpa using hx)
        clear hx
        go_wp2_with fail
        refine (has_any _ _ hs hp (HS.out)).mono ?_
        rintro e w1 ⟨rfl, n, rfl⟩
        rw [show Lx.pre (⟨#[13]⟩ : ByteArray).data.toList s.data.toList p = false from HX.out]
        go_wp2
        go_roundw
        case rel => exact ⟨2, by omega, rfl, HS.out.drewN n, HK.out.drewN n, HB.out, miss_step HN.out rfl HX.out⟩
        case measure => simp [intOf]
    · have ck := c 2
      simp at ck
      clear c
      by_cases hx : Lx.pre [226, 128, 168] s.data.toList p = true
      · have hle : p + 3 ≤ s.size := by have := pre_le hx (by omega); simpa [hlen] using this
        have HX := Lib.hid hx
        clear hx
        go_wp2_with fail
        refine (has_any _ _ hs hp (HS.out)).mono ?_
        rintro e w1 ⟨rfl, n, rfl⟩
        rw [show Lx.pre (⟨#[226, 128, 168]⟩ : ByteArray).data.toList s.data.toList p = true from HX.out]
        go_wp2
        go_ret
        have hf : Lx.nl s.data.toList p = some (p + 3) := first_hit HN.out rfl HX.out
        rw [hf]
        exact ⟨rfl, (HK.out.drewN n).setB 1 _, (HS.out.drewN n).setAt (p + 3)⟩
      · have HX := Lib.hid (show Lx.pre [226, 128, 168] s.data.toList p = false by simpa using hx)
        clear hx
        go_wp2_with fail
        refine (has_any _ _ hs hp (HS.out)).mono ?_
        rintro e w1 ⟨rfl, n, rfl⟩
        rw [show Lx.pre (⟨#[226, 128, 168]⟩ : ByteArray).data.toList s.data.toList p = false from HX.out]
        go_wp2
        go_roundw
        case rel => exact ⟨3, by omega, rfl, HS.out.drewN n, HK.out.drewN n, HB.out, miss_step HN.out rfl HX.out⟩
        case measure => simp [intOf]
    · have ck := c 3
      simp at ck
      clear c
      by_cases hx : Lx.pre [226, 128, 169] s.data.toList p = true
      · have hle : p + 3 ≤ s.size := by have := pre_le hx (by omega); simpa [hlen] using this
        have HX := Lib.hid hx
        clear hx
        go_wp2_with fail
        refine (has_any _ _ hs hp (HS.out)).mono ?_
        rintro e w1 ⟨rfl, n, rfl⟩
        rw [show Lx.pre (⟨#[226, 128, 169]⟩ : ByteArray).data.toList s.data.toList p = true from HX.out]
        go_wp2
        go_ret
        have hf : Lx.nl s.data.toList p = some (p + 3) := first_hit HN.out rfl HX.out
        rw [hf]
        exact ⟨rfl, (HK.out.drewN n).setB 1 _, (HS.out.drewN n).setAt (p + 3)⟩
      · have HX := Lib.hid (show Lx.pre [226, 128, 169] s.data.toList p = false by simpa using hx)
        clear hx
        go_wp2_with fail
        refine (has_any _ _ hs hp (HS.out)).mono ?_
        rintro e w1 ⟨rfl, n, rfl⟩
        rw [show Lx.pre (⟨#[226, 128, 169]⟩ : ByteArray).data.toList s.data.toList p = false from HX.out]
        go_wp2
        go_roundw
        case rel => exact ⟨4, by omega, rfl, HS.out.drewN n, HK.out.drewN n, HB.out, miss_step HN.out rfl HX.out⟩
        case measure => simp [intOf]
    · go_wp2
      go_ret
      have hf : Lx.nl s.data.toList p = none := first_none HN.out
      rw [hf]
      exact ⟨rfl, HK.out, HS.out⟩
set_option maxHeartbeats 1000000 in
theorem blank_any (w : World) (hs : s.size ≤ 140737488351232) (hp : p ≤ s.size) (h : Scn b s lv p ln ov opn w) :
    Calls Tryz.prog 76 #[.pointer (some ⟨b, 0, none⟩)] w fun e w' => e = .returned (.bool (Lx.bl s.data.toList p).isSome) ∧ Kf (So b) w w' ∧ Scn b s lv ((Lx.bl s.data.toList p).getD p) ln ov opn w' := by
  have hlen : s.data.toList.length = s.size := by simp
  go_enter Tryz.func76, Tryz.ntmps76
  go_wp2
  go_loopw [7] (fun i wr => ∃ k : Nat, k ≤ 6 ∧ i = .int .i64 k ∧ Scn b s lv p ln ov opn wr ∧ Kf (So b) w wr ∧ wr.heap[w.heap.size]? = some (.cells #[.string ⟨#[32]⟩, .string ⟨#[9]⟩, .string ⟨#[11]⟩, .string ⟨#[12]⟩, .string ⟨#[194, 160]⟩, .string ⟨#[239, 187, 191]⟩] 9 (0, 0)) ∧ ∀ t ∈ Lx.bls.take k, Lx.pre t s.data.toList p = false) (fun i _ => 6 - (intOf i).toNat)
  case atStart => exact ⟨0, by omega, rfl, h.alloc _, (Kf.refl _ _).alloc _, heap_alloc_new _ _, by simp⟩
  case round =>
    obtain ⟨k, hk, rfl, hS, hK, hB, hno⟩ := hrel
    have c := cellN hB
    have h0 := hS.c0
    have h1 := hS.c1
    have f1 := hS.fz 1
    have HN := Lib.hid hno
    have HS := Lib.hid hS
    have HK := Lib.hid hK
    have HB := Lib.hid hB
    clear hno hS hK h hB
    have : k = 0 ∨ k = 1 ∨ k = 2 ∨ k = 3 ∨ k = 4 ∨ k = 5 ∨ k = 6 := by omega
    rcases this with rfl | rfl | rfl | rfl | rfl | rfl | rfl
    · have ck := c 0
      simp at ck
      clear c
      by_cases hx : Lx.pre [32] s.data.toList p = true
      · have hle : p + 1 ≤ s.size := by have := pre_le hx (by omega); simpa [hlen] using this
        have HX := Lib.hid hx
        clear hx
        go_wp2_with fail
        refine (has_any _ _ hs hp (HS.out)).mono ?_
        rintro e w1 ⟨rfl, n, rfl⟩
        rw [show Lx.pre (⟨#[32]⟩ : ByteArray).data.toList s.data.toList p = true from HX.out]
        go_wp2
        go_ret
        have hf : Lx.bl s.data.toList p = some (p + 1) := first_hit HN.out rfl HX.out
        rw [hf]
        exact ⟨rfl, (HK.out.drewN n).setB 1 _, (HS.out.drewN n).setAt (p + 1)⟩
      · have HX := Lib.hid (show Lx.pre [32] s.data.toList p = false by simpa using hx)
        clear hx
        go_wp2_with fail
        refine (has_any _ _ hs hp (HS.out)).mono ?_
        rintro e w1 ⟨rfl, n, rfl⟩
        rw [show Lx.pre (⟨#[32]⟩ : ByteArray).data.toList s.data.toList p = false from HX.out]
        go_wp2
        go_roundw
        case rel => exact ⟨1, by omega, rfl, HS.out.drewN n, HK.out.drewN n, HB.out, miss_step HN.out rfl HX.out⟩
        case measure => simp [intOf]
    · have ck := c 1
      simp at ck
      clear c
      by_cases hx : Lx.pre [9] s.data.toList p = true
      · have hle : p + 1 ≤ s.size := by have := pre_le hx (by omega); simpa [hlen] using this
        have HX := Lib.hid hx
        clear hx
        go_wp2_with fail
        refine (has_any _ _ hs hp (HS.out)).mono ?_
        rintro e w1 ⟨rfl, n, rfl⟩
        rw [show Lx.pre (⟨#[9]⟩ : ByteArray).data.toList s.data.toList p = true from HX.out]
        go_wp2
        go_ret
        have hf : Lx.bl s.data.toList p = some (p + 1) := first_hit HN.out rfl HX.out
        rw [hf]
        exact ⟨rfl, (HK.out.drewN n).setB 1 _, (HS.out.drewN n).setAt (p + 1)⟩
      · have HX := Lib.hid (show Lx.pre [9] s.data.toList p = false by simpa using hx)
        clear hx
        go_wp2_with fail
        refine (has_any _ _ hs hp (HS.out)).mono ?_
        rintro e w1 ⟨rfl, n, rfl⟩
        rw [show Lx.pre (⟨#[9]⟩ : ByteArray).data.toList s.data.toList p = false from HX.out]
        go_wp2
        go_roundw
        case rel => exact ⟨2, by omega, rfl, HS.out.drewN n, HK.out.drewN n, HB.out, miss_step HN.out rfl HX.out⟩
        case measure => simp [intOf]
    · have ck := c 2
      simp at ck
      clear c
      by_cases hx : Lx.pre [11] s.data.toList p = true
      · have hle : p + 1 ≤ s.size := by have := pre_le hx (by omega); simpa [hlen] using this
        have HX := Lib.hid hx
        clear hx
        go_wp2_with fail
        refine (has_any _ _ hs hp (HS.out)).mono ?_
        rintro e w1 ⟨rfl, n, rfl⟩
        rw [show Lx.pre (⟨#[11]⟩ : ByteArray).data.toList s.data.toList p = true from HX.out]
        go_wp2
        go_ret
        have hf : Lx.bl s.data.toList p = some (p + 1) := first_hit HN.out rfl HX.out
        rw [hf]
        exact ⟨rfl, (HK.out.drewN n).setB 1 _, (HS.out.drewN n).setAt (p + 1)⟩
      · have HX := Lib.hid (show Lx.pre [11] s.data.toList p = false by simpa using hx)
        clear hx
        go_wp2_with fail
        refine (has_any _ _ hs hp (HS.out)).mono ?_
        rintro e w1 ⟨rfl, n, rfl⟩
        rw [show Lx.pre (⟨#[11]⟩ : ByteArray).data.toList s.data.toList p = false from HX.out]
        go_wp2
        go_roundw
        case rel => exact ⟨3, by omega, rfl, HS.out.drewN n, HK.out.drewN n, HB.out, miss_step HN.out rfl HX.out⟩
        case measure => simp [intOf]
    · have ck := c 3
      simp at ck
      clear c
      by_cases hx : Lx.pre [12] s.data.toList p = true
      · have hle : p + 1 ≤ s.size := by have := pre_le hx (by omega); simpa [hlen] using this
        have HX := Lib.hid hx
        clear hx
        go_wp2_with fail
        refine (has_any _ _ hs hp (HS.out)).mono ?_
        rintro e w1 ⟨rfl, n, rfl⟩
        rw [show Lx.pre (⟨#[12]⟩ : ByteArray).data.toList s.data.toList p = true from HX.out]
        go_wp2
        go_ret
        have hf : Lx.bl s.data.toList p = some (p + 1) := first_hit HN.out rfl HX.out
        rw [hf]
        exact ⟨rfl, (HK.out.drewN n).setB 1 _, (HS.out.drewN n).setAt (p + 1)⟩
      · have HX := Lib.hid (show Lx.pre [12] s.data.toList p = false by simpa using hx)
        clear hx
        go_wp2_with fail
        refine (has_any _ _ hs hp (HS.out)).mono ?_
        rintro e w1 ⟨rfl, n, rfl⟩
        rw [show Lx.pre (⟨#[12]⟩ : ByteArray).data.toList s.data.toList p = false from HX.out]
        go_wp2
        go_roundw
        case rel => exact ⟨4, by omega, rfl, HS.out.drewN n, HK.out.drewN n, HB.out, miss_step HN.out rfl HX.out⟩
        case measure => simp [intOf]
    · have ck := c 4
      simp at ck
      clear c
      by_cases hx : Lx.pre [194, 160] s.data.toList p = true
      · have hle : p + 2 ≤ s.size := by have := pre_le hx (by omega); simpa [hlen] using this
        have HX := Lib.hid hx
        clear hx
        go_wp2_with fail
        refine (has_any _ _ hs hp (HS.out)).mono ?_
        rintro e w1 ⟨rfl, n, rfl⟩
        rw [show Lx.pre (⟨#[194, 160]⟩ : ByteArray).data.toList s.data.toList p = true from HX.out]
        go_wp2
        go_ret
        have hf : Lx.bl s.data.toList p = some (p + 2) := first_hit HN.out rfl HX.out
        rw [hf]
        exact ⟨rfl, (HK.out.drewN n).setB 1 _, (HS.out.drewN n).setAt (p + 2)⟩
      · have HX := Lib.hid (show Lx.pre [194, 160] s.data.toList p = false by simpa using hx)
        clear hx
        go_wp2_with fail
        refine (has_any _ _ hs hp (HS.out)).mono ?_
        rintro e w1 ⟨rfl, n, rfl⟩
        rw [show Lx.pre (⟨#[194, 160]⟩ : ByteArray).data.toList s.data.toList p = false from HX.out]
        go_wp2
        go_roundw
        case rel => exact ⟨5, by omega, rfl, HS.out.drewN n, HK.out.drewN n, HB.out, miss_step HN.out rfl HX.out⟩
        case measure => simp [intOf]
    · have ck := c 5
      simp at ck
      clear c
      by_cases hx : Lx.pre [239, 187, 191] s.data.toList p = true
      · have hle : p + 3 ≤ s.size := by have := pre_le hx (by omega); simpa [hlen] using this
        have HX := Lib.hid hx
        clear hx
        go_wp2_with fail
        refine (has_any _ _ hs hp (HS.out)).mono ?_
        rintro e w1 ⟨rfl, n, rfl⟩
        rw [show Lx.pre (⟨#[239, 187, 191]⟩ : ByteArray).data.toList s.data.toList p = true from HX.out]
        go_wp2
        go_ret
        have hf : Lx.bl s.data.toList p = some (p + 3) := first_hit HN.out rfl HX.out
        rw [hf]
        exact ⟨rfl, (HK.out.drewN n).setB 1 _, (HS.out.drewN n).setAt (p + 3)⟩
      · have HX := Lib.hid (show Lx.pre [239, 187, 191] s.data.toList p = false by simpa using hx)
        clear hx
        go_wp2_with fail
        refine (has_any _ _ hs hp (HS.out)).mono ?_
        rintro e w1 ⟨rfl, n, rfl⟩
        rw [show Lx.pre (⟨#[239, 187, 191]⟩ : ByteArray).data.toList s.data.toList p = false from HX.out]
        go_wp2
        go_roundw
        case rel => exact ⟨6, by omega, rfl, HS.out.drewN n, HK.out.drewN n, HB.out, miss_step HN.out rfl HX.out⟩
        case measure => simp [intOf]
    · go_wp2
      go_ret
      have hf : Lx.bl s.data.toList p = none := first_none HN.out
      rw [hf]
      exact ⟨rfl, HK.out, HS.out⟩
end
end Go.Proofs.YtcgibcjpkhefpaaGreatDoor

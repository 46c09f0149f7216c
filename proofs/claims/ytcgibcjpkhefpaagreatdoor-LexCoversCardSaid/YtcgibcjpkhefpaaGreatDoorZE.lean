/-
  Walks of the scanner's small methods: letter, digit, peek, has, newline, blank.
  Walks of the scanner's methods hex, put, plain; of units.Point and units.put.
  Walks: put (two of that name), units.Point, the scanner's plain.
  digits.prefix (98) at any text: the base that a beginning tells, and that its two bytes are below 128.
-/
import Derived.Test.YtcgibcjpkhefpaaGreatDoorShelf
import Derived.Test.YtcgibcjpkhefpaaGreatDoorZB
import Derived.Test.YtcgibcjpkhefpaaGreatDoorZW0
namespace Go.Proofs.YtcgibcjpkhefpaaGreatDoor
open Go.RowKit
theorem ret_bool {a b : Bool} (h : a = b) : Ending.returned (.bool a) = Ending.returned (.bool b) := by rw [h]
theorem ret_int {k : IntKind} {a b : Int} (h : a = b) : Ending.returned (.int k a) = Ending.returned (.int k b) := by rw [h]
theorem ret_str {a b : ByteArray} (h : a = b) : Ending.returned (.string a) = Ending.returned (.string b) := by rw [h]
theorem cellN {w : World} {B : Nat} {c : Array Value} {e : TypeId} (h : w.heap[B]? = some (.cells c e (0,0))) (j : Nat) : w.cell? ⟨B, j, none⟩ = c[j]? := by simp [World.cell?, h]
theorem miss_step {ts : List (List UInt8)} {l : List UInt8} {p k : Nat} {t : List UInt8} (h : ∀ u ∈ ts.take k, Lx.pre u l p = false) (ht : ts[k]? = some t) (hf : Lx.pre t l p = false) : ∀ u ∈ ts.take (k + 1), Lx.pre u l p = false := by
  intro u hu
  rw [List.take_add_one] at hu
  simp only [ht, Option.toList_some, List.mem_append, List.mem_singleton] at hu
  rcases hu with hu | rfl
  · exact h u hu
  · exact hf
theorem first_hit {ts : List (List UInt8)} {l : List UInt8} {p k : Nat} {t : List UInt8} (h : ∀ u ∈ ts.take k, Lx.pre u l p = false) (ht : ts[k]? = some t) (hf : Lx.pre t l p = true) : Lx.firstOf ts l p = some (p + t.length) := by
  induction ts generalizing k with
  | nil => simp at ht
  | cons a ts ih =>
    cases k with
    | zero =>
      simp at ht; subst ht
      simp [Lx.firstOf, hf]
    | succ k =>
      have ha : Lx.pre a l p = false := h a (by simp)
      have := ih (k := k) (fun u hu => h u (by simp [hu])) (by simpa using ht)
      simp only [Lx.firstOf] at this ⊢
      rw [List.find?_cons_of_neg (by simp [ha])]
      exact this
theorem first_none {ts : List (List UInt8)} {l : List UInt8} {p : Nat} (h : ∀ u ∈ ts, Lx.pre u l p = false) : Lx.firstOf ts l p = none := by
  simp only [Lx.firstOf, Option.map_eq_none_iff, List.find?_eq_none]
  intro u hu; simp [h u hu]
theorem pre_le {t l : List UInt8} {p : Nat} (h : Lx.pre t l p = true) (hp : p ≤ l.length) : p + t.length ≤ l.length := by
  simp only [Lx.pre, List.isPrefixOf_iff_prefix] at h
  have := h.length_le
  simp at this; omega
theorem u8_all {P : UInt8 → Prop} (h : ∀ n : Fin 256, P (UInt8.ofNat n.val)) : ∀ c, P c := fun c => by
  have := h ⟨c.toNat, c.toNat_lt⟩
  simpa using this
def letB (n : Int) : Bool := n == 36 || n == 95 || (decide (97 ≤ bits .or .u8 n 32) && decide (bits .or .u8 n 32 ≤ 122))
theorem letB_eq : ∀ c : UInt8, Lx.isLet c = letB c.toNat := u8_all (by decide +kernel)
theorem digB_eq : ∀ c : UInt8, Lx.isDig c = (decide (48 ≤ (c.toNat : Int)) && decide ((c.toNat : Int) ≤ 57)) := u8_all (by decide +kernel)
set_option maxHeartbeats 400000 in
theorem letter_any (c : UInt8) (w : World) :
    Calls Tryz.prog 18 #[.int .u8 c.toNat] w fun e w' => e = .returned (.bool (Lx.isLet c)) ∧ w' = w := by
  rw [letB_eq]
  unfold letB
  go_enter Tryz.func18, Tryz.ntmps18
  go_wp2
  all_goals
    go_ret
    refine ⟨ret_bool ?_, rfl⟩
    simp_all
  omega
set_option maxHeartbeats 400000 in
theorem digit_any (c : UInt8) (w : World) :
    Calls Tryz.prog 19 #[.int .u8 c.toNat] w fun e w' => e = .returned (.bool (Lx.isDig c)) ∧ w' = w := by
  rw [digB_eq]
  go_enter Tryz.func19, Tryz.ntmps19
  go_wp2
  all_goals
    go_ret
    refine ⟨ret_bool ?_, rfl⟩
    simp_all
  omega
section
variable {b : Nat} {s : ByteArray} {lv ov : Value} {p : Nat} {ln : Bool} {opn : List Int}
set_option maxHeartbeats 400000 in
theorem has_any (t : ByteArray) (w : World) (_hs : s.size ≤ 140737488351232) (hp : p ≤ s.size) (h : Scn b s lv p ln ov opn w) :
    Calls Tryz.prog 95 #[.pointer (some ⟨b, 0, none⟩), .string t] w fun e w' => e = .returned (.bool (Lx.pre t.data.toList s.data.toList p)) ∧ ∃ k, w' = w.drewN k := by
  have h0 := h.c0
  have h1 := h.c1
  have hpi : (p : Int) ≤ (s.size : Int) := by omega
  go_enter Tryz.func95, Tryz.ntmps95
  go_wp2
  go_quiet ((go_at_call 115; exact Calls.quiet_of_same (Tryz.strings_HasPrefix _ _ _)))
  go_wp2
  go_ret
  exact ⟨ret_bool (by show Lib.hasPrefix _ _ = _; rw [strExt]; rfl), _, rfl⟩
set_option maxHeartbeats 400000 in
theorem peek_any (n : Nat) (w : World) (hs : s.size ≤ 140737488351232) (hn : n ≤ 8) (hp : p ≤ s.size) (h : Scn b s lv p ln ov opn w) :
    Calls Tryz.prog 78 #[.pointer (some ⟨b, 0, none⟩), .int .i64 n] w fun e w' => e = .returned (.int .u8 (Lx.pk s.data.toList (p + n)).toNat) ∧ ∃ k, w' = w.drewN k := by
  have h0 := h.c0
  have h1 := h.c1
  by_cases hlt : p + n < s.size
  · have hlt' : (p : Int) + (n : Int) < (s.size : Int) := by omega
    have hw : IntKind.i64.wrap ((p : Int) + (n : Int)) = (p : Int) + n := IntWalk.i64_in _ (by omega)
    have hn : 0 ≤ (p : Int) + n := by omega
    have ht : ((p : Int) + n).toNat = p + n := by omega
    go_enter Tryz.func78, Tryz.ntmps78
    go_wp2
    go_quiet (fail)
    go_wp2
    go_quiet (fail)
    go_wp2
    go_ret
    exact ⟨ret_int (by simp [Lx.pk, hlt]; rfl), _, World.drewN_drewN _ _ _⟩
  · have hlt' : (s.size : Int) ≤ (p : Int) + (n : Int) := by omega
    have hw : IntKind.i64.wrap ((p : Int) + (n : Int)) = (p : Int) + n := IntWalk.i64_in _ (by omega)
    have hd : decide ((p : Int) + (n : Int) < (s.size : Int)) = false := by simp; omega
    go_enter Tryz.func78, Tryz.ntmps78
    go_wp2
    go_quiet (fail)
    go_wp2
    go_ret
    exact ⟨ret_int (by simp [Lx.pk, hlt]), _, rfl⟩
set_option maxHeartbeats 1000000 in
theorem newline_any (w : World) (hs : s.size ≤ 140737488351232) (hp : p ≤ s.size) (h : Scn b s lv p ln ov opn w) :
    Calls Tryz.prog 75 #[.pointer (some ⟨b, 0, none⟩)] w fun e w' => e = .returned (.bool (Lx.nl s.data.toList p).isSome) ∧ Kf (So b) w w' ∧ Scn b s lv ((Lx.nl s.data.toList p).getD p) ln ov opn w' := by
  have hlen : s.data.toList.length = s.size := by simp
  go_enter Tryz.func75, Tryz.ntmps75
  go_wp2
  go_loopw [7] (fun i wr => ∃ k : Nat, k ≤ 4 ∧ i = .int .i64 k ∧ Scn b s lv p ln ov opn wr ∧ Kf (So b) w wr ∧ wr.heap[w.heap.size]? = some (.cells #[.string ⟨#[10]⟩, .string ⟨#[13]⟩, .string ⟨#[226, 128, 168]⟩, .string ⟨#[226, 128, 169]⟩] 9 (0, 0)) ∧ ∀ t ∈ Lx.nls.take k, Lx.pre t s.data.toList p = false) (fun i _ => 4 - (intOf i).toNat)
  case atStart => exact ⟨0, by omega, rfl, h.alloc _, (Kf.refl _ _).alloc _, heap_alloc_new _ _, by simp⟩
  case round =>
    obtain ⟨k, hk, rfl, hS, hK, hB, hno⟩ := hrel
    have c := cellN hB
    have h0 := hS.c0
    have h1 := hS.c1
    have f1 := hS.fz 1
    have HN := Lib.hid hno
    have HS := Lib.hid hS
    have HK := Lib.hid hK
    have HB := Lib.hid hB
    clear hno hS hK h hB
    have : k = 0 ∨ k = 1 ∨ k = 2 ∨ k = 3 ∨ k = 4 := by omega
    rcases this with rfl | rfl | rfl | rfl | rfl
    · have ck := c 0
      simp at ck
      clear c
      by_cases hx : Lx.pre [10] s.data.toList p = true
      · have hle : p + 1 ≤ s.size := by have := pre_le hx (by omega); simpa [hlen] using this
        have HX := Lib.hid hx
        clear hx
        go_wp2_with fail
        refine (has_any _ _ hs hp (HS.out)).mono ?_
        rintro e w1 ⟨rfl, n, rfl⟩
        rw [show Lx.pre (⟨#[10]⟩ : ByteArray).data.toList s.data.toList p = true from HX.out]
        go_wp2
        go_ret
        have hf : Lx.nl s.data.toList p = some (p + 1) := first_hit HN.out rfl HX.out
        rw [hf]
        exact ⟨rfl, (HK.out.drewN n).setB 1 _, (HS.out.drewN n).setAt (p + 1)⟩
      · have HX := Lib.hid (show Lx.pre [10] s.data.toList p = false by simpa using hx)
        clear hx
        go_wp2_with fail
        refine (has_any _ _ hs hp (HS.out)).mono ?_
        rintro e w1 ⟨rfl, n, rfl⟩
        rw [show Lx.pre (⟨#[10]⟩ : ByteArray).data.toList s.data.toList p = false from HX.out]
        go_wp2
        go_roundw
        case rel => exact ⟨1, by omega, rfl, HS.out.drewN n, HK.out.drewN n, HB.out, miss_step HN.out rfl HX.out⟩
        case measure => simp [intOf]
    · have ck := c 1
      simp at ck
      clear c
      by_cases hx : Lx.pre [13] s.data.toList p = true
      · have hle : p + 1 ≤ s.size := by have := pre_le hx (by omega); simpa [hlen] using this
        have HX := Lib.hid hx
        clear hx
        go_wp2_with fail
        refine (has_any _ _ hs hp (HS.out)).mono ?_
        rintro e w1 ⟨rfl, n, rfl⟩
        rw [show Lx.pre (⟨#[13]⟩ : ByteArray).data.toList s.data.toList p = true from HX.out]
        go_wp2
        go_ret
        have hf : Lx.nl s.data.toList p = some (p + 1) := first_hit HN.out rfl HX.out
        rw [hf]
        exact ⟨rfl, (HK.out.drewN n).setB 1 _, (HS.out.drewN n).setAt (p + 1)⟩
      · have HX := Lib.hid (show Lx.pre [13] s.data.toList p = false by simpa using hx)
        clear hx
        go_wp2_with fail
        refine (has_any _ _ hs hp (HS.out)).mono ?_
        rintro e w1 ⟨rfl, n, rfl⟩
        rw [show Lx.pre (⟨#[13]⟩ : ByteArray).data.toList s.data.toList p = false from HX.out]
        go_wp2
        go_roundw
        case rel => exact ⟨2, by omega, rfl, HS.out.drewN n, HK.out.drewN n, HB.out, miss_step HN.out rfl HX.out⟩
        case measure => simp [intOf]
    · have ck := c 2
      simp at ck
      clear c
      by_cases hx : Lx.pre [226, 128, 168] s.data.toList p = true
      · have hle : p + 3 ≤ s.size := by have := pre_le hx (by omega); simpa [hlen] using this
        have HX := Lib.hid hx
        clear hx
        go_wp2_with fail
        refine (has_any _ _ hs hp (HS.out)).mono ?_
        rintro e w1 ⟨rfl, n, rfl⟩
        rw [show Lx.pre (⟨#[226, 128, 168]⟩ : ByteArray).data.toList s.data.toList p = true from HX.out]
        go_wp2
        go_ret
        have hf : Lx.nl s.data.toList p = some (p + 3) := first_hit HN.out rfl HX.out
        rw [hf]
        exact ⟨rfl, (HK.out.drewN n).setB 1 _, (HS.out.drewN n).setAt (p + 3)⟩
      · have HX := Lib.hid (show Lx.pre [226, 128, 168] s.data.toList p = false by simpa using hx)
        clear hx
        go_wp2_with fail
        refine (has_any _ _ hs hp (HS.out)).mono ?_
        rintro e w1 ⟨rfl, n, rfl⟩
        rw [show Lx.pre (⟨#[226, 128, 168]⟩ : ByteArray).data.toList s.data.toList p = false from HX.out]
        go_wp2
        go_roundw
        case rel => exact ⟨3, by omega, rfl, HS.out.drewN n, HK.out.drewN n, HB.out, miss_step HN.out rfl HX.out⟩
        case measure => simp [intOf]
    · have ck := c 3
      simp at ck
      clear c
      by_cases hx : Lx.pre [226, 128, 169] s.data.toList p = true
      · have hle : p + 3 ≤ s.size := by have := pre_le hx (by omega); simpa [hlen] using this
        have HX := Lib.hid hx
        clear hx
        go_wp2_with fail
        refine (has_any _ _ hs hp (HS.out)).mono ?_
        rintro e w1 ⟨rfl, n, rfl⟩
        rw [show Lx.pre (⟨#[226, 128, 169]⟩ : ByteArray).data.toList s.data.toList p = true from HX.out]
        go_wp2
        go_ret
        have hf : Lx.nl s.data.toList p = some (p + 3) := first_hit HN.out rfl HX.out
        rw [hf]
        exact ⟨rfl, (HK.out.drewN n).setB 1 _, (HS.out.drewN n).setAt (p + 3)⟩
      · have HX := Lib.hid (show Lx.pre [226, 128, 169] s.data.toList p = false by simpa using hx)
        clear hx
        go_wp2_with fail
        refine (has_any _ _ hs hp (HS.out)).mono ?_
        rintro e w1 ⟨rfl, n, rfl⟩
        rw [show Lx.pre (⟨#[226, 128, 169]⟩ : ByteArray).data.toList s.data.toList p = false from HX.out]
        go_wp2
        go_roundw
        case rel => exact ⟨4, by omega, rfl, HS.out.drewN n, HK.out.drewN n, HB.out, miss_step HN.out rfl HX.out⟩
        case measure => simp [intOf]
    · go_wp2
      go_ret
      have hf : Lx.nl s.data.toList p = none := first_none HN.out
      rw [hf]
      exact ⟨rfl, HK.out, HS.out⟩
set_option maxHeartbeats 1000000 in
theorem blank_any (w : World) (hs : s.size ≤ 140737488351232) (hp : p ≤ s.size) (h : Scn b s lv p ln ov opn w) :
    Calls Tryz.prog 76 #[.pointer (some ⟨b, 0, none⟩)] w fun e w' => e = .returned (.bool (Lx.bl s.data.toList p).isSome) ∧ Kf (So b) w w' ∧ Scn b s lv ((Lx.bl s.data.toList p).getD p) ln ov opn w' := by
  have hlen : s.data.toList.length = s.size := by simp
  go_enter Tryz.func76, Tryz.ntmps76
  go_wp2
  go_loopw [7] (fun i wr => ∃ k : Nat, k ≤ 6 ∧ i = .int .i64 k ∧ Scn b s lv p ln ov opn wr ∧ Kf (So b) w wr ∧ wr.heap[w.heap.size]? = some (.cells #[.string ⟨#[32]⟩, .string ⟨#[9]⟩, .string ⟨#[11]⟩, .string ⟨#[12]⟩, .string ⟨#[194, 160]⟩, .string ⟨#[239, 187, 191]⟩] 9 (0, 0)) ∧ ∀ t ∈ Lx.bls.take k, Lx.pre t s.data.toList p = false) (fun i _ => 6 - (intOf i).toNat)
  case atStart => exact ⟨0, by omega, rfl, h.alloc _, (Kf.refl _ _).alloc _, heap_alloc_new _ _, by simp⟩
  case round =>
    obtain ⟨k, hk, rfl, hS, hK, hB, hno⟩ := hrel
    have c := cellN hB
    have h0 := hS.c0
    have h1 := hS.c1
    have f1 := hS.fz 1
    have HN := Lib.hid hno
    have HS := Lib.hid hS
    have HK := Lib.hid hK
    have HB := Lib.hid hB
    clear hno hS hK h hB
    have : k = 0 ∨ k = 1 ∨ k = 2 ∨ k = 3 ∨ k = 4 ∨ k = 5 ∨ k = 6 := by omega
    rcases this with rfl | rfl | rfl | rfl | rfl | rfl | rfl
    · have ck := c 0
      simp at ck
      clear c
      by_cases hx : Lx.pre [32] s.data.toList p = true
      · have hle : p + 1 ≤ s.size := by have := pre_le hx (by omega); simpa [hlen] using this
        have HX := Lib.hid hx
        clear hx
        go_wp2_with fail
        refine (has_any _ _ hs hp (HS.out)).mono ?_
        rintro e w1 ⟨rfl, n, rfl⟩
        rw [show Lx.pre (⟨#[32]⟩ : ByteArray).data.toList s.data.toList p = true from HX.out]
        go_wp2
        go_ret
        have hf : Lx.bl s.data.toList p = some (p + 1) := first_hit HN.out rfl HX.out
        rw [hf]
        exact ⟨rfl, (HK.out.drewN n).setB 1 _, (HS.out.drewN n).setAt (p + 1)⟩
      · have HX := Lib.hid (show Lx.pre [32] s.data.toList p = false by simpa using hx)
        clear hx
        go_wp2_with fail
        refine (has_any _ _ hs hp (HS.out)).mono ?_
        rintro e w1 ⟨rfl, n, rfl⟩
        rw [show Lx.pre (⟨#[32]⟩ : ByteArray).data.toList s.data.toList p = false from HX.out]
        go_wp2
        go_roundw
        case rel => exact ⟨1, by omega, rfl, HS.out.drewN n, HK.out.drewN n, HB.out, miss_step HN.out rfl HX.out⟩
        case measure => simp [intOf]
    · have ck := c 1
      simp at ck
      clear c
      by_cases hx : Lx.pre [9] s.data.toList p = true
      · have hle : p + 1 ≤ s.size := by have := pre_le hx (by omega); simpa [hlen] using this
        have HX := Lib.hid hx
        clear hx
        go_wp2_with fail
        refine (has_any _ _ hs hp (HS.out)).mono ?_
        rintro e w1 ⟨rfl, n, rfl⟩
        rw [show Lx.pre (⟨#[9]⟩ : ByteArray).data.toList s.data.toList p = true from HX.out]
        go_wp2
        go_ret
        have hf : Lx.bl s.data.toList p = some (p + 1) := first_hit HN.out rfl HX.out
        rw [hf]
        exact ⟨rfl, (HK.out.drewN n).setB 1 _, (HS.out.drewN n).setAt (p + 1)⟩
      · have HX := Lib.hid (show Lx.pre [9] s.data.toList p = false by simpa using hx)
        clear hx
        go_wp2_with fail
        refine (has_any _ _ hs hp (HS.out)).mono ?_
        rintro e w1 ⟨rfl, n, rfl⟩
        rw [show Lx.pre (⟨#[9]⟩ : ByteArray).data.toList s.data.toList p = false from HX.out]
        go_wp2
        go_roundw
        case rel => exact ⟨2, by omega, rfl, HS.out.drewN n, HK.out.drewN n, HB.out, miss_step HN.out rfl HX.out⟩
        case measure => simp [intOf]
    · have ck := c 2
      simp at ck
      clear c
      by_cases hx : Lx.pre [11] s.data.toList p = true
      · have hle : p + 1 ≤ s.size := by have := pre_le hx (by omega); simpa [hlen] using this
        have HX := Lib.hid hx
        clear hx
        go_wp2_with fail
        refine (has_any _ _ hs hp (HS.out)).mono ?_
        rintro e w1 ⟨rfl, n, rfl⟩
        rw [show Lx.pre (⟨#[11]⟩ : ByteArray).data.toList s.data.toList p = true from HX.out]
        go_wp2
        go_ret
        have hf : Lx.bl s.data.toList p = some (p + 1) := first_hit HN.out rfl HX.out
        rw [hf]
        exact ⟨rfl, (HK.out.drewN n).setB 1 _, (HS.out.drewN n).setAt (p + 1)⟩
      · have HX := Lib.hid (show Lx.pre [11] s.data.toList p = false by simpa using hx)
        clear hx
        go_wp2_with fail
        refine (has_any _ _ hs hp (HS.out)).mono ?_
        rintro e w1 ⟨rfl, n, rfl⟩
        rw [show Lx.pre (⟨#[11]⟩ : ByteArray).data.toList s.data.toList p = false from HX.out]
        go_wp2
        go_roundw
        case rel => exact ⟨3, by omega, rfl, HS.out.drewN n, HK.out.drewN n, HB.out, miss_step HN.out rfl HX.out⟩
        case measure => simp [intOf]
    · have ck := c 3
      simp at ck
      clear c
      by_cases hx : Lx.pre [12] s.data.toList p = true
      · have hle : p + 1 ≤ s.size := by have := pre_le hx (by omega); simpa [hlen] using this
        have HX := Lib.hid hx
        clear hx
        go_wp2_with fail
        refine (has_any _ _ hs hp (HS.out)).mono ?_
        rintro e w1 ⟨rfl, n, rfl⟩
        rw [show Lx.pre (⟨#[12]⟩ : ByteArray).data.toList s.data.toList p = true from HX.out]
        go_wp2
        go_ret
        have hf : Lx.bl s.data.toList p = some (p + 1) := first_hit HN.out rfl HX.out
        rw [hf]
        exact ⟨rfl, (HK.out.drewN n).setB 1 _, (HS.out.drewN n).setAt (p + 1)⟩
      · have HX := Lib.hid (show Lx.pre [12] s.data.toList p = false by simpa using hx)
        clear hx
        go_wp2_with fail
        refine (has_any _ _ hs hp (HS.out)).mono ?_
        rintro e w1 ⟨rfl, n, rfl⟩
        rw [show Lx.pre (⟨#[12]⟩ : ByteArray).data.toList s.data.toList p = false from HX.out]
        go_wp2
        go_roundw
        case rel => exact ⟨4, by omega, rfl, HS.out.drewN n, HK.out.drewN n, HB.out, miss_step HN.out rfl HX.out⟩
        case measure => simp [intOf]
    · have ck := c 4
      simp at ck
      clear c
      by_cases hx : Lx.pre [194, 160] s.data.toList p = true
      · have hle : p + 2 ≤ s.size := by have := pre_le hx (by omega); simpa [hlen] using this
        have HX := Lib.hid hx
        clear hx
        go_wp2_with fail
        refine (has_any _ _ hs hp (HS.out)).mono ?_
        rintro e w1 ⟨rfl, n, rfl⟩
        rw [show Lx.pre (⟨#[194, 160]⟩ : ByteArray).data.toList s.data.toList p = true from HX.out]
        go_wp2
        go_ret
        have hf : Lx.bl s.data.toList p = some (p + 2) := first_hit HN.out rfl HX.out
        rw [hf]
        exact ⟨rfl, (HK.out.drewN n).setB 1 _, (HS.out.drewN n).setAt (p + 2)⟩
      · have HX := Lib.hid (show Lx.pre [194, 160] s.data.toList p = false by simpa using hx)
        clear hx
        go_wp2_with fail
        refine (has_any _ _ hs hp (HS.out)).mono ?_
        rintro e w1 ⟨rfl, n, rfl⟩
        rw [show Lx.pre (⟨#[194, 160]⟩ : ByteArray).data.toList s.data.toList p = false from HX.out]
        go_wp2
        go_roundw
        case rel => exact ⟨5, by omega, rfl, HS.out.drewN n, HK.out.drewN n, HB.out, miss_step HN.out rfl HX.out⟩
        case measure => simp [intOf]
    · have ck := c 5
      simp at ck
      clear c
      by_cases hx : Lx.pre [239, 187, 191] s.data.toList p = true
      · have hle : p + 3 ≤ s.size := by have := pre_le hx (by omega); simpa [hlen] using this
        have HX := Lib.hid hx
        clear hx
        go_wp2_with fail
        refine (has_any _ _ hs hp (HS.out)).mono ?_
        rintro e w1 ⟨rfl, n, rfl⟩
        rw [show Lx.pre (⟨#[239, 187, 191]⟩ : ByteArray).data.toList s.data.toList p = true from HX.out]
        go_wp2
        go_ret
        have hf : Lx.bl s.data.toList p = some (p + 3) := first_hit HN.out rfl HX.out
        rw [hf]
        exact ⟨rfl, (HK.out.drewN n).setB 1 _, (HS.out.drewN n).setAt (p + 3)⟩
      · have HX := Lib.hid (show Lx.pre [239, 187, 191] s.data.toList p = false by simpa using hx)
        clear hx
        go_wp2_with fail
        refine (has_any _ _ hs hp (HS.out)).mono ?_
        rintro e w1 ⟨rfl, n, rfl⟩
        rw [show Lx.pre (⟨#[239, 187, 191]⟩ : ByteArray).data.toList s.data.toList p = false from HX.out]
        go_wp2
        go_roundw
        case rel => exact ⟨6, by omega, rfl, HS.out.drewN n, HK.out.drewN n, HB.out, miss_step HN.out rfl HX.out⟩
        case measure => simp [intOf]
    · go_wp2
      go_ret
      have hf : Lx.bl s.data.toList p = none := first_none HN.out
      rw [hf]
      exact ⟨rfl, HK.out, HS.out⟩
end
end Go.Proofs.YtcgibcjpkhefpaaGreatDoor
namespace Go.Proofs.YtcgibcjpkhefpaaGreatDoor
open Go.RowKit

/-- What is thrown: a place at which no token begins. -/
def wrongAt (p : Nat) : Ending := .panicked [{ v := .iface 62 (.agg #[.int .i64 p]), recovered := false }]

theorem or32 : ∀ c : UInt8, bits .or .u8 (c.toNat : Int) 32 = ((c.toNat ||| 32 : Nat) : Int) := u8_all (by decide +kernel)
theorem idxByte (t : ByteArray) (c : UInt8) (w : World) :
    Calls Tryz.prog 117 #[.string t, .int .u8 c.toNat] w fun e w' => e = .returned (.int .i64 (Lib.indexByte t.data.toList c)) ∧ w' = w := by
  have h := Tryz.strings_IndexByte t c.toNat w
  simpa using h
section
variable {b : Nat} {s : ByteArray} {lv ov : Value} {p : Nat} {ln : Bool} {opn : List Int}
theorem peek0 (w : World) (hs : s.size ≤ 140737488351232) (hp : p ≤ s.size) (h : Scn b s lv p ln ov opn w) :
    Calls Tryz.prog 78 #[.pointer (some ⟨b, 0, none⟩), .int .i64 0] w fun e w' => e = .returned (.int .u8 (Lx.pk s.data.toList p).toNat) ∧ ∃ k, w' = w.drewN k :=
  peek_any 0 w hs (by omega) hp h
theorem peek1 (w : World) (hs : s.size ≤ 140737488351232) (hp : p ≤ s.size) (h : Scn b s lv p ln ov opn w) :
    Calls Tryz.prog 78 #[.pointer (some ⟨b, 0, none⟩), .int .i64 1] w fun e w' => e = .returned (.int .u8 (Lx.pk s.data.toList (p + 1)).toNat) ∧ ∃ k, w' = w.drewN k :=
  peek_any 1 w hs (by omega) hp h

/-- A number to the base 16 has been read. -/
def HexPost (b : Nat) (s : ByteArray) (lv : Value) (ln : Bool) (ov : Value) (opn : List Int) (frm : Nat) (w : World) (r : Option (Nat × Nat)) (e : Ending) (w' : World) : Prop :=
  Kf (So b) w w' ∧ match r with
    | some (v, q) => e = .returned (.int .i32 v) ∧ Scn b s lv q ln ov opn w'
    | none => e = wrongAt frm
theorem hexd_chk : ∀ c : UInt8, (match Lx.hexd c with | some k => decide (Lib.indexByte Lx.hexDigits (c ||| 32) = k ∧ k ≤ 15 ∧ 48 ≤ c.toNat) | none => true) = true := u8_all (by decide +kernel)
theorem hexd_some {c : UInt8} {k : Nat} (h : Lx.hexd c = some k) : Lib.indexByte Lx.hexDigits (c ||| 32) = k ∧ k ≤ 15 ∧ 48 ≤ c.toNat := by
  have := hexd_chk c
  rw [h] at this
  simpa using this
theorem idxHex (c : UInt8) (w : World) :
    Calls Tryz.prog 117 #[.string ⟨#[48, 49, 50, 51, 52, 53, 54, 55, 56, 57, 97, 98, 99, 100, 101, 102]⟩, .int .u8 ((c.toNat ||| 32 : Nat) : Int)] w fun e w' => e = .returned (.int .i64 (Lib.indexByte Lx.hexDigits (c ||| 32))) ∧ w' = w := by
  have := idxByte ⟨#[48, 49, 50, 51, 52, 53, 54, 55, 56, 57, 97, 98, 99, 100, 101, 102]⟩ (c ||| 32) w
  rw [show (c ||| 32).toNat = (c.toNat ||| 32 : Nat) by simp] at this
  exact this
theorem hexd_none {c : UInt8} (h : Lx.hexd c = none) : Lib.indexByte Lx.hexDigits (c ||| 32) < 0 ∨ c.toNat < 48 := by
  unfold Lx.hexd at h
  simp only [ite_eq_left_iff, reduceCtorEq, imp_false, Decidable.not_not] at h
  rcases h with h | h
  · exact Or.inl h
  · exact Or.inr (by simpa [UInt8.lt_iff_toNat_lt] using h)
theorem hex_bad0 {l : List UInt8} {least most p : Nat} (h : Lx.hexGo l most 0 0 p = none) : Lx.hex l least most p = none := by simp [Lx.hex, h]
theorem hex_bad {l : List UInt8} {least most p n v q : Nat} (h : Lx.hexGo l most 0 0 p = some (n, v, q)) (hl : n < least) : Lx.hex l least most p = none := by simp [Lx.hex, h, hl]
theorem hex_ok {l : List UInt8} {least most p n v q : Nat} (h : Lx.hexGo l most 0 0 p = some (n, v, q)) (hl : ¬ n < least) : Lx.hex l least most p = some (v, q) := by simp [Lx.hex, h, hl]
theorem pk_zero {l : List UInt8} {p : Nat} (h : l.length ≤ p) : Lx.pk l p = 0 := by simp [Lx.pk, h]
set_option maxHeartbeats 1000000 in
theorem hex_any (least most frm : Nat) (w : World) (hs : s.size ≤ 140737488351232) (hp : p ≤ s.size) (_hl : least ≤ 4) (hm : most ≤ 140737488351232) (h : Scn b s lv p ln ov opn w) :
    Calls Tryz.prog 124 #[.pointer (some ⟨b, 0, none⟩), .int .i64 least, .int .i64 most, .int .i64 frm] w
      (HexPost b s lv ln ov opn frm w (Lx.hex s.data.toList least most p)) := by
  have hlen : s.data.toList.length = s.size := by simp
  go_enter Tryz.func124, Tryz.ntmps124
  go_wp2
  go_loopw [9, 10] (fun vv nn wr => ∃ f n v q : Nat, n + f = most ∧ v ≤ 1114111 ∧ q ≤ s.size ∧ vv = .int .i32 v ∧ nn = .int .i64 n ∧ Scn b s lv q ln ov opn wr ∧ Kf (So b) w wr ∧ Lx.hexGo s.data.toList f n v q = Lx.hexGo s.data.toList most 0 0 p) (fun _ nn _ => most - (intOf nn).toNat)
  case atStart => exact ⟨most, 0, 0, p, by omega, by omega, hp, rfl, rfl, h, Kf.refl _ _, rfl⟩
  case round =>
    obtain ⟨f, n, v, q, hnf, hv, hq, rfl, rfl, hS, hK, hG⟩ := hrel
    have h0 := hS.c0
    have h1 := hS.c1
    have f1 := hS.fz 1
    have HG := Lib.hid hG
    have HS := Lib.hid hS
    have HK := Lib.hid hK
    have HNF := Lib.hid hnf
    clear hG hS hK h hnf
    cases f with
    | zero =>
      have hlt : most ≤ n := by have := HNF.out; omega
      have FIN := Lib.hid (show Lx.hexGo s.data.toList 0 n v q = some (n, v, q) from rfl)
      by_cases hle : n < least
      · go_wp2
        exact ⟨rfl, HK.out, by rw [hex_bad (by rw [← HG.out]; exact FIN.out) hle]; rfl⟩
      · go_wp2
        go_ret
        exact ⟨HK.out, by rw [hex_ok (by rw [← HG.out]; exact FIN.out) hle]; exact ⟨rfl, HS.out⟩⟩
    | succ f =>
      have hlt : n < most := by have := HNF.out; omega
      have e32 := or32 (Lx.pk s.data.toList q)
      cases hd : Lx.hexd (Lx.pk s.data.toList q) with
      | none =>
        have FIN := Lib.hid (show Lx.hexGo s.data.toList (f + 1) n v q = some (n, v, q) by rw [Lx.hexGo, hd])
        have hno := hexd_none hd
        clear hd
        by_cases hi : Lib.indexByte Lx.hexDigits (Lx.pk s.data.toList q ||| 32) < 0
        · clear hno
          by_cases hle : n < least
          all_goals
            go_wp2_with fail
            refine (peek0 _ hs hq HS.out).mono ?_
            rintro e w1 ⟨rfl, n1, rfl⟩
            go_wp2_with fail
            refine (idxHex _ _).mono ?_
            rintro e w1 ⟨rfl, rfl⟩
            go_wp2
          · exact ⟨rfl, HK.out.drewN _, by rw [hex_bad (by rw [← HG.out]; exact FIN.out) hle]; rfl⟩
          · go_ret
            exact ⟨HK.out.drewN _, by rw [hex_ok (by rw [← HG.out]; exact FIN.out) hle]; exact ⟨rfl, HS.out.drewN _⟩⟩
        · have h48 : ((Lx.pk s.data.toList q).toNat : Int) < 48 := by omega
          clear hno
          by_cases hle : n < least
          all_goals
            go_wp2_with fail
            refine (peek0 _ hs hq HS.out).mono ?_
            rintro e w1 ⟨rfl, n1, rfl⟩
            go_wp2_with fail
            refine (idxHex _ _).mono ?_
            rintro e w1 ⟨rfl, rfl⟩
            go_wp2_with fail
            refine (peek0 _ hs hq (HS.out.drewN _)).mono ?_
            rintro e w1 ⟨rfl, n2, rfl⟩
            go_wp2_with fail
          · exact ⟨rfl, HK.out.drewN _, by rw [hex_bad (by rw [← HG.out]; exact FIN.out) hle]; rfl⟩
          · go_ret
            exact ⟨HK.out.drewN _, by rw [hex_ok (by rw [← HG.out]; exact FIN.out) hle]; exact ⟨rfl, HS.out.drewN _⟩⟩
      | some k =>
        obtain ⟨hk1, hk2, hk3⟩ := hexd_some hd
        have HK1 := Lib.hid hk1
        have HD := Lib.hid hd
        clear hk1 hd
        by_cases hbig : 1114111 < 16 * v + k
        · have FIN := Lib.hid (show Lx.hexGo s.data.toList (f + 1) n v q = none by simp only [Lx.hexGo, HD.out]; rw [if_pos hbig])
          go_wp2_with fail
          refine (peek0 _ hs hq HS.out).mono ?_
          rintro e w1 ⟨rfl, n1, rfl⟩
          go_wp2_with fail
          refine (idxHex _ _).mono ?_
          rintro e w1 ⟨rfl, rfl⟩
          rw [HK1.out]
          go_wp2_with fail
          refine (peek0 _ hs hq (HS.out.drewN _)).mono ?_
          rintro e w1 ⟨rfl, n2, rfl⟩
          go_wp2_with fail
          exact ⟨rfl, HK.out.drewN _, by rw [hex_bad0 (by rw [← HG.out]; exact FIN.out)]; rfl⟩
        · have FIN := Lib.hid (show Lx.hexGo s.data.toList (f + 1) n v q = Lx.hexGo s.data.toList f (n + 1) (16 * v + k) (q + 1) by simp only [Lx.hexGo, HD.out]; rw [if_neg hbig])
          have hqs : q < s.size := by
            rcases Nat.lt_or_ge q s.size with hx | hx
            · exact hx
            · rw [pk_zero (by omega)] at hk3; simp at hk3
          go_wp2_with fail
          refine (peek0 _ hs hq HS.out).mono ?_
          rintro e w1 ⟨rfl, n1, rfl⟩
          go_wp2_with fail
          refine (idxHex _ _).mono ?_
          rintro e w1 ⟨rfl, rfl⟩
          rw [HK1.out]
          go_wp2_with fail
          refine (peek0 _ hs hq (HS.out.drewN _)).mono ?_
          rintro e w1 ⟨rfl, n2, rfl⟩
          go_wp2_with fail
          go_roundw
          case rel =>
            refine ⟨f, n + 1, 16 * v + k, q + 1, by have := HNF.out; omega, by omega, by omega, by go_num, by go_num, ?_, ?_, by rw [← HG.out]; exact FIN.out.symm⟩
            · exact (HS.out.drewN _).setTo (by omega)
            · exact (HK.out.drewN _).setB 1 _
          case measure => simp [intOf]; omega
end
end Go.Proofs.YtcgibcjpkhefpaaGreatDoor
namespace Go.Proofs.YtcgibcjpkhefpaaGreatDoor
open Go.RowKit
/-- What a Builder's method leaves alone. -/
def Wrote (B x : Nat) (l : List UInt8) (w w' : World) : Prop := Bld B x l w' ∧ Below B w w' ∧ Lib.OthersKept 5 (some x) w w'
theorem Wrote.trans {B x : Nat} {l l' : List UInt8} {w w1 w2 : World} (h : Wrote B x l w w1) (k : Wrote B x l' w1 w2) : Wrote B x l' w w2 :=
  ⟨k.1, h.2.1.trans k.2.1, h.2.2.trans k.2.2⟩
theorem bld_byte {B x : Nat} {l : List UInt8} {w : World} (c : UInt8) (h : Bld B x l w) (hl : l.length + 1 ≤ 140737488355328) :
    Calls Tryz.prog 92 #[.pointer (some ⟨x, 0, none⟩), .int .u8 c.toNat] w fun e w' => e = .returned .nilIface ∧ Wrote B x (l ++ [c]) w w' :=
  (WriteByte_k B x (Lib.byteCells l) c.toNat w h (by rw [Lib.byteCells_length]; exact hl) (by have := h.le; omega)).mono
    fun _ _ ⟨he, hb, h1, h2⟩ => ⟨he, by unfold Bld; rw [Lib.byteCells_append]; exact Or.inr hb, h1, h2⟩
theorem bld_str {B x : Nat} {l : List UInt8} {w : World} (s : ByteArray) (h : Bld B x l w) (hl : l.length + s.size ≤ 140737488355328) :
    Calls Tryz.prog 51 #[.pointer (some ⟨x, 0, none⟩), .string s] w fun e w' => e = .returned (.tuple #[.int .i64 s.size, .nilIface]) ∧ Wrote B x (l ++ s.data.toList) w w' :=
  (WriteString_k B x (Lib.byteCells l) s w h (by rw [Lib.byteCells_length]; exact hl) (by have := h.le; omega)).mono
    fun _ _ ⟨he, hb, h1, h2⟩ => ⟨he, by unfold Bld; rw [Lib.byteCells_append, ← Lib.strCells_eq]; exact Or.inr hb, h1, h2⟩
theorem bld_end {B x : Nat} {l : List UInt8} {w : World} (h : Bld B x l w) :
    Calls Tryz.prog 53 #[.pointer (some ⟨x, 0, none⟩)] w fun e w' => e = .returned (.string ⟨l.toArray⟩) ∧ Wrote B x l w w' :=
  (Tryz.Builder_String_any_k B x l w h (by have := h.le; omega)).mono fun _ _ ⟨he, hb, h1, h2⟩ => ⟨he, hb, h1, h2⟩
theorem bld_fresh (w : World) : Bld w.heap.size w.heap.size [] (w.alloc (.cells #[.pointer none, .slice none 0 0] 80)) :=
  Lib.IsBuilderF.of (Lib.fresh_isBuilder 80 5 w)
theorem hi_byte {n : Nat} (hn : n < 65536) : ((n : Int) / 256) = ((UInt8.ofNat (n / 256)).toNat : Int) := by
  have : (UInt8.ofNat (n / 256)).toNat = n / 256 := by simp; omega
  rw [this]; omega
theorem lo_byte (n : Nat) : ((n : Int) % 256) = ((UInt8.ofNat n).toNat : Int) := by
  have : (UInt8.ofNat n).toNat = n % 256 := by simp
  rw [this]; omega
set_option maxHeartbeats 400000 in
theorem put_any {B x : Nat} {l : List UInt8} {w : World} (n : Nat) (hn : n < 65536) (h : Bld B x l w) (hl : l.length + 2 ≤ 140737488355328) :
    Calls Tryz.prog 107 #[.pointer (some ⟨x, 0, none⟩), .int .u16 n] w fun e w' => e = .returned (.tuple #[]) ∧ Wrote B x (l ++ Lx.u16 n) w w' := by
  have HB := Lib.hid h
  have hl1 : (l ++ [UInt8.ofNat (n / 256)]).length + 1 ≤ 140737488355328 := by simp; omega
  clear h
  go_enter Tryz.func107, Tryz.ntmps107
  go_wp2_with fail
  rw [hi_byte hn]
  refine (bld_byte _ HB.out (by omega)).mono ?_
  rintro e w1 ⟨rfl, H1⟩
  have H1 := Lib.hid H1
  go_wp2_with fail
  rw [lo_byte n]
  refine (bld_byte _ H1.out.1 hl1).mono ?_
  rintro e w2 ⟨rfl, H2⟩
  go_wp2_with fail
  go_end0
  exact ⟨rfl, by simpa [Lx.u16] using H1.out.trans H2⟩
set_option maxHeartbeats 400000 in
theorem uput_any {B x : Nat} {l : List UInt8} {w : World} (n : Nat) (hn : n < 65536) (h : Bld B x l w) (hl : l.length + 2 ≤ 140737488355328) :
    Calls Tryz.prog 73 #[.pointer (some ⟨x, 0, none⟩), .int .u16 n] w fun e w' => e = .returned (.tuple #[]) ∧ Wrote B x (l ++ Lx.u16 n) w w' := by
  have HB := Lib.hid h
  have hl1 : (l ++ [UInt8.ofNat (n / 256)]).length + 1 ≤ 140737488355328 := by simp; omega
  clear h
  go_enter Tryz.func73, Tryz.ntmps73
  go_wp2_with fail
  rw [hi_byte hn]
  refine (bld_byte _ HB.out (by omega)).mono ?_
  rintro e w1 ⟨rfl, H1⟩
  have H1 := Lib.hid H1
  go_wp2_with fail
  rw [lo_byte n]
  refine (bld_byte _ H1.out.1 hl1).mono ?_
  rintro e w2 ⟨rfl, H2⟩
  go_wp2_with fail
  go_end0
  exact ⟨rfl, by simpa [Lx.u16] using H1.out.trans H2⟩
theorem pointB_small {n : Nat} (h : n < 65536) : Lx.pointB n = Lx.u16 n := by
  unfold Lx.pointB; rw [if_neg (by omega), if_pos h]
theorem pointB_great {n : Nat} (h : 65536 ≤ n) (h2 : n ≤ 1114111) : Lx.pointB n = Lx.u16 (55296 + (n - 65536) / 1024) ++ Lx.u16 (56320 + n % 1024) := by
  unfold Lx.pointB; rw [if_neg (by omega), if_neg (by omega)]
theorem arrList (l : List UInt8) : ([] ++ l).toArray = l.toArray := by simp
theorem low_surr (r : Int) (h0 : 0 ≤ r) (h1 : r < 2147483648) : IntKind.u16.wrap (bits BinOp.or IntKind.i32 56320 (bits BinOp.and IntKind.i32 r 1023)) = ((56320 + r.toNat % 1024 : Nat) : Int) := by
  have e1 : bits .and .i32 r 1023 = r % 1024 := bits_mask .i32 31 (by decide) wraps_i32 10 (by decide) r h0 (by omega)
  rw [e1]
  have e2 : bits .or .i32 56320 (r % 1024) = 56320 + r % 1024 := bits_join .i32 31 (by decide) wraps_i32 10 56320 _ (by decide) (by decide) (by decide) (by omega) (by omega) (by omega)
  rw [e2, IntKind.wrap_u16]
  omega
set_option maxRecDepth 100000 in
set_option maxHeartbeats 400000 in
theorem point_a (r : Int) (h0 : 0 ≤ r) (hr : r < 65536) (w : World) :
    Calls Tryz.prog 52 #[.int .i32 r] w fun e w' => e = .returned (.string ⟨(Lx.pointB r.toNat).toArray⟩) ∧ Below w.heap.size w w' := by
    have hB := Lib.hid (bld_fresh w)
    have hA := Lib.hid ((Below.refl w.heap.size w).alloc (Nat.le_refl _) (.cells #[.pointer none, .slice none 0 0] 80))
    go_enter Tryz.func52, Tryz.ntmps52
    go_wp2_with fail
    rw [show r = ((r.toNat : Nat) : Int) by omega]
    refine (uput_any _ (by omega) hB.out (by simp)).mono ?_
    rintro e w1 ⟨rfl, H1⟩
    have H1 := Lib.hid H1
    go_wp2_with fail
    refine (bld_end H1.out.1).mono ?_
    rintro e w2 ⟨rfl, H2⟩
    have H2 := Lib.hid H2
    go_wp2
    go_ret
    exact ⟨by rw [pointB_small (by omega)]; rfl, hA.out.trans (H1.out.2.1.trans H2.out.2.1)⟩
set_option maxRecDepth 100000 in
set_option maxHeartbeats 400000 in
theorem point_b (r : Int) (h0 : 65536 ≤ r) (hr : r ≤ 1114111) (w : World) :
    Calls Tryz.prog 52 #[.int .i32 r] w fun e w' => e = .returned (.string ⟨(Lx.pointB r.toNat).toArray⟩) ∧ Below w.heap.size w w' := by
    have hB := Lib.hid (bld_fresh w)
    have hA := Lib.hid ((Below.refl w.heap.size w).alloc (Nat.le_refl _) (.cells #[.pointer none, .slice none 0 0] 80))
    have HE := Lib.hid (show 55296 + (r - 65536) / 1024 = ((55296 + (r.toNat - 65536) / 1024 : Nat) : Int) by omega)
    go_enter Tryz.func52, Tryz.ntmps52
    go_wp2_with fail
    rw [HE.out]
    refine (uput_any _ (by omega) hB.out (by simp)).mono ?_
    rintro e w1 ⟨rfl, H1⟩
    have H1 := Lib.hid H1
    go_wp2_with fail
    rw [low_surr r (by omega) (by omega)]
    refine (uput_any _ (by omega) H1.out.1 (by simp [Lx.u16])).mono ?_
    rintro e w1 ⟨rfl, H2⟩
    have H2 := Lib.hid H2
    go_wp2_with fail
    refine (bld_end H2.out.1).mono ?_
    rintro e w2 ⟨rfl, H3⟩
    have H3 := Lib.hid H3
    go_wp2
    go_ret
    exact ⟨by rw [pointB_great (by omega) (by omega)]; rfl, hA.out.trans (H1.out.2.1.trans (H2.out.2.1.trans H3.out.2.1))⟩
theorem point_any (r : Int) (h0 : 0 ≤ r) (hr : r ≤ 1114111) (w : World) :
    Calls Tryz.prog 52 #[.int .i32 r] w fun e w' => e = .returned (.string ⟨(Lx.pointB r.toNat).toArray⟩) ∧ Below w.heap.size w w' := by
  by_cases h : r < 65536
  · exact point_a r h0 h w
  · exact point_b r (by omega) hr w
end Go.Proofs.YtcgibcjpkhefpaaGreatDoor
namespace Go.Proofs.YtcgibcjpkhefpaaGreatDoor
open Go.RowKit
theorem u8_allD {P : UInt8 → Prop} (h : ∀ n : Fin 256, P (UInt8.ofNat n.val)) : ∀ c, P c := fun c => by
  have := h ⟨c.toNat, c.toNat_lt⟩
  simpa using this
def xob (c : UInt8) : Int := Lib.indexByte [120, 111, 98] (c ||| 32)
theorem xob_all : ∀ c : UInt8, xob c = -1 ∨ ((xob c = 0 ∨ xob c = 1 ∨ xob c = 2) ∧ c.toNat < 128) := u8_allD (by decide +kernel)
theorem or32D (c : UInt8) : bits .or .u8 (c.toNat : Int) 32 = ((c ||| 32).toNat : Int) := by
  revert c; exact u8_allD (by decide +kernel)
theorem bases_any (w : World) : Calls Tryz.prog 118 #[] w fun e w' => e = .returned (.agg #[.int .i64 16, .int .i64 8, .int .i64 2]) ∧ Below w.heap.size w w' := by
  go_enter Tryz.func118, Tryz.ntmps118
  go_wp2
  exact bodyPost_ret (v := .agg #[.int .i64 16, .int .i64 8, .int .i64 2]) (by simp [results, Tryz.results118, go_sem]) rfl ⟨rfl, (Below.refl _ _).alloc (Nat.le_refl _) _⟩
def PfxPost (s : ByteArray) (w : World) (e : Ending) (w' : World) : Prop :=
  Below w.heap.size w w' ∧ ∃ b : Nat, e = .returned (.int .i64 b) ∧ (b = 0 ∨ ((b = 16 ∨ b = 8 ∨ b = 2) ∧ 2 ≤ s.size ∧ ∀ i, i < 2 → ∀ c, s.data.toList[i]? = some c → c.toNat < 128))
set_option maxHeartbeats 2000000 in
set_option maxRecDepth 100000 in
theorem prefix_any (s : ByteArray) (w : World) (hs : s.size ≤ 262144) : Calls Tryz.prog 98 #[.string s] w (PfxPost s w) := by
  have hno : ∀ w', Below w.heap.size w w' → PfxPost s w (.returned (.int .i64 0)) w' := fun w' hb => ⟨hb, 0, rfl, Or.inl rfl⟩
  by_cases h2 : s.size < 2
  · have hd : decide ((s.size : Int) < 2) = true := by simp; omega
    go_enter Tryz.func98, Tryz.ntmps98
    go_wp2
    go_ret
    exact hno _ (Below.refl _ _)
  have hd : decide ((s.size : Int) < 2) = false := by simp; omega
  have hp0 : 0 < s.size := by omega
  have hp1 : 1 < s.size := by omega
  by_cases h48 : s[0]'hp0 = 48
  · have e0 : ((s[0]'hp0).toNat : Int) = 48 := by rw [h48]; rfl
    have hx := xob_all (s[1]'hp1)
    have HIX := Lib.hid (show Lib.indexByte (⟨#[120, 111, 98]⟩ : ByteArray).data.toList (bits .or .u8 ((s[1]'hp1).toNat : Int) 32).toNat.toUInt8 = xob (s[1]'hp1) by
      rw [or32D]
      have : (((s[1]'hp1 ||| 32).toNat : Nat) : Int).toNat.toUInt8 = (s[1]'hp1) ||| 32 := by
        apply UInt8.toNat_inj.1
        simp
      rw [this]; rfl)
    have HLO := Lib.hid (show (s[1]'hp1).toNat < 128 → ∀ i, i < 2 → ∀ c, s.data.toList[i]? = some c → c.toNat < 128 by
      intro h i hi c hc
      match i, hi with
      | 0, _ =>
        have e : s.data.toList[0]? = some (s[0]'hp0) := by rw [List.getElem?_eq_getElem (by simpa using hp0)]; simp; rfl
        rw [e] at hc; injection hc with hc; rw [← hc, h48]; decide
      | 1, _ =>
        have e : s.data.toList[1]? = some (s[1]'hp1) := by rw [List.getElem?_eq_getElem (by simpa using hp1)]; simp; rfl
        rw [e] at hc; injection hc with hc; rw [← hc]; exact h)
    have hge : 65 ≤ ((s[1]'hp1).toNat : Int) ∨ ((s[1]'hp1).toNat : Int) < 65 := by omega
    generalize xob (s[1]'hp1) = x at *
    have x0 : ∀ w, (Instr.index 150 (Value.agg #[Value.int IntKind.i64 16, Value.int IntKind.i64 8, Value.int IntKind.i64 2]) (Value.int IntKind.i64 0)).run Tryz.prog w = .ok (.int .i64 16) w := fun _ => by kernel_rfl
    have x1 : ∀ w, (Instr.index 150 (Value.agg #[Value.int IntKind.i64 16, Value.int IntKind.i64 8, Value.int IntKind.i64 2]) (Value.int IntKind.i64 1)).run Tryz.prog w = .ok (.int .i64 8) w := fun _ => by kernel_rfl
    have x2 : ∀ w, (Instr.index 150 (Value.agg #[Value.int IntKind.i64 16, Value.int IntKind.i64 8, Value.int IntKind.i64 2]) (Value.int IntKind.i64 2)).run Tryz.prog w = .ok (.int .i64 2) w := fun _ => by kernel_rfl
    go_enter Tryz.func98, Tryz.ntmps98
    go_wp2_with fail
    refine (Tryz.strings_IndexByte _ _ _).mono ?_
    rintro e w1 ⟨rfl, rfl⟩
    rw [HIX.out]
    rcases hx with rfl | ⟨hx, hlt⟩
    · go_wp2
      go_ret
      exact hno _ (Below.refl _ _)
    · rcases hge with hge | hge
      · rcases hx with rfl | rfl | rfl
        · go_wp2_with fail
          refine (bases_any _).mono ?_
          rintro e w2 ⟨rfl, hb⟩
          go_wp2
          go_ret
          exact ⟨hb, 16, rfl, Or.inr ⟨Or.inl rfl, by omega, HLO.out hlt⟩⟩
        · go_wp2_with fail
          refine (bases_any _).mono ?_
          rintro e w2 ⟨rfl, hb⟩
          go_wp2
          go_ret
          exact ⟨hb, 8, rfl, Or.inr ⟨Or.inr (Or.inl rfl), by omega, HLO.out hlt⟩⟩
        · go_wp2_with fail
          refine (bases_any _).mono ?_
          rintro e w2 ⟨rfl, hb⟩
          go_wp2
          go_ret
          exact ⟨hb, 2, rfl, Or.inr ⟨Or.inr (Or.inr rfl), by omega, HLO.out hlt⟩⟩
      · rcases hx with rfl | rfl | rfl
        all_goals
          go_wp2
          go_ret
          exact hno _ (Below.refl _ _)
  · have e0 : (((s[0]'hp0).toNat : Int) == 48) = false := by
      simp only [beq_eq_false_iff_ne, ne_eq]
      intro h
      exact h48 (UInt8.toNat_inj.1 (by simpa using (by omega : (s[0]'hp0).toNat = 48)))
    go_enter Tryz.func98, Tryz.ntmps98
    go_wp2
    go_ret
    exact hno _ (Below.refl _ _)
end Go.Proofs.YtcgibcjpkhefpaaGreatDoor

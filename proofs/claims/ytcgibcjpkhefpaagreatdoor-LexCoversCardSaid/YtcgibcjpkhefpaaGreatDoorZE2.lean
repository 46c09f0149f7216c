/-
  parseFloat64 (178) and atof64exact (177) at any numbers.
-/
import Derived.Test.YtcgibcjpkhefpaaGreatDoorZA
import Derived.Test.YtcgibcjpkhefpaaGreatDoorZE1
namespace Go.Proofs.YtcgibcjpkhefpaaGreatDoor
open Go.RowKit
theorem wrap_num (x : Int) : ∃ m : Nat, m < 18446744073709551616 ∧ IntKind.u64.wrap x = m := ⟨(IntKind.u64.wrap x).toNat, by rw [IntKind.wrap_u64]; omega, by rw [IntKind.wrap_u64]; omega⟩
theorem bitLenAux_le : ∀ f x, Lib.bitLenAux f x ≤ f
  | 0, x => by simp [Lib.bitLenAux]
  | f + 1, x => by
    have := bitLenAux_le f (x / 2)
    rw [Lib.bitLenAux]
    split <;> omega
theorem sca_new (w : World) : Sca w.heap.size 0 0 0 (w.alloc (.cells #[.int .u64 0, .int .u64 0, .int .i64 0] 235)) := heap_alloc_new _ _
theorem PW.keep {w w' : World} (h : PW w) (hb : Below w.heap.size w w') (h17 : 17 < w.heap.size) : PW w' := fun i hi => by
  obtain ⟨a, b, ha, hb', c1, c2⟩ := h i hi
  exact ⟨a, b, ha, hb', by rw [hb.cell (p := ⟨17, i * 2, none⟩) h17]; exact c1, by rw [hb.cell (p := ⟨17, i * 2 + 1, none⟩) h17]; exact c2⟩
set_option maxRecDepth 100000 in
set_option maxHeartbeats 4000000 in
theorem pf64_any (d sign : Nat) (p : Int) (w : World) (hd : d < 18446744073709551616) (_hs : sign < 18446744073709551616) (hp : -348 ≤ p ∧ p < 348) (hP : PW w) (h17 : 17 < w.heap.size) :
    Calls Tryz.prog 178 #[.int .u64 d, .int .i64 p, .int .u64 sign] w fun e w' => FlErr e ∧ Below w.heap.size w w' := by
  have HP := Lib.hid hP
  have hfb := run_frombits
  clear hP
  go_enter Tryz.func178, Tryz.ntmps178
  go_wp2_with fail
  refine (Tryz.bits_Len64 d _ (by omega) (by omega)).mono ?_
  rintro e w1 ⟨rfl, rfl⟩
  rw [Int.toNat_natCast]
  have hb : Lib.bitLen d ≤ 64 := bitLenAux_le _ _
  obtain ⟨b, hbe⟩ : ∃ b, Lib.bitLen d = b := ⟨_, rfl⟩
  rw [hbe] at hb
  rw [hbe]
  go_wp2_with fail
  refine (log2p p (by omega) (by omega) _).mono ?_
  rintro e w2 ⟨rfl, rfl⟩
  obtain ⟨lp, hlp⟩ : ∃ lp, p * 108853 / 32768 = lp := ⟨_, rfl⟩
  have hlb : -1200 ≤ lp ∧ lp ≤ 1200 := by omega
  rw [hlp]
  clear hlp
  obtain ⟨E, hE⟩ : ∃ E, min 1074 (53 - (b : Int) - lp) = E := ⟨_, rfl⟩
  have hE1 : E ≤ 53 - b - lp := by omega
  have hE2 : -2000 ≤ E ∧ E ≤ 1074 := by omega
  go_wp2_with fail
  have HB0 := Lib.hid (((Below.refl w2.heap.size w2).alloc (Nat.le_refl _) (.cells #[.int .u64 0, .int .u64 0, .int .i64 0] 235)))
  refine (prescale_any w2.heap.size 0 0 0 _ _ _ _ (sca_new w2) (HP.out.keep HB0.out h17) h17 hp (by omega) (by omega)).mono ?_
  rintro e w3 ⟨rfl, hK, a1, b1, ha1, hb1, hS⟩
  have hs8 : 8 ≤ -(E - (64 - (b : Int)) + lp + 3) := by omega
  obtain ⟨s, hse⟩ : ∃ s : Nat, -(E - (64 - (b : Int)) + lp + 3) = s := ⟨(-(E - (64 - (b : Int)) + lp + 3)).toNat, by omega⟩
  rw [hse] at hS
  have HS := Lib.hid hS
  have k2 : w3.cell? ⟨w2.heap.size, 2, none⟩ = some (.int .i64 s) := by simp [World.cell?, show w3.heap[w2.heap.size]? = _ from hS]
  have HB := Lib.hid (HB0.out.trans (hK.below (B := w2.heap.size) HB0.out.size (fun k o e => by have e : k = _ := e; omega)))
  clear hS hK hE
  by_cases h64 : 64 ≤ s
  · have d0 : decide (64 ≤ s) = true := by simp; omega
    go_wp2_with fail
    exact bodyPost_ret (v := .tuple #[.float .f64 _, .nilIface]) (by simp [results, Tryz.results178]; rfl) rfl ⟨⟨_, Or.inl rfl⟩, HB.out⟩
  · have d0 : decide (64 ≤ s) = false := by simp; omega
    obtain ⟨m1, hm1, hm1e⟩ := wrap_num ((d : Int) * 2 ^ (64 - b))
    go_wp2_with fail
    refine (uscale_any w2.heap.size a1 b1 s m1 w3 HS.out hm1 ha1 hb1 (by omega)).mono ?_
    rintro e w4 ⟨⟨u, hu, rfl⟩, k, rfl⟩
    go_wp2_with fail
    refine (unmin_one _).mono ?_
    rintro e w5 ⟨rfl, rfl⟩
    go_wp2_with fail
    refine (Tryz.internal_strconv_bool2_int _ _).mono ?_
    rintro e w6 ⟨rfl, rfl⟩
    cases decide (36028797018963966 ≤ (u : Int))
    all_goals
      simp only [Bool.false_eq_true, if_false, if_true]
    case' false => obtain ⟨n1, hn1, hn1e⟩ := bits_num .or (u : Int) (bits .and .u64 (u : Int) 1)
    case' true => obtain ⟨n1, hn1, hn1e⟩ := bits_num .or ((u : Int) / 2) (bits .and .u64 (u : Int) 1)
    all_goals
      go_wp2_with fail
      refine (round_any n1 _ hn1).mono ?_
      rintro e w7 ⟨⟨n2, hn2, rfl⟩, rfl⟩
      go_wp2_with fail
      refine (pack_any _ _ (by omega) (by omega) _).mono ?_
      rintro e w8 ⟨⟨v, rfl | rfl⟩, rfl⟩
      · go_wp2_with fail
        exact bodyPost_ret (v := .tuple #[.float .f64 _, .nilIface]) (by simp [results, Tryz.results178]; rfl) rfl ⟨⟨_, Or.inl rfl⟩, HB.out.trans ⟨rfl, rfl, rfl, Nat.le_refl _, fun _ _ => rfl⟩⟩
      · go_wp2_with fail
        exact bodyPost_ret (v := .tuple #[.float .f64 _, .iface 165 (.int .i64 1)]) (by simp [results, Tryz.results178]; rfl) rfl ⟨⟨_, Or.inr rfl⟩, HB.out.trans ⟨rfl, rfl, rfl, Nat.le_refl _, fun _ _ => rfl⟩⟩
/-- The table of exact powers of ten, in block g. -/
structure PX (g o c : Nat) (w : World) : Prop where
  v : w.cell? ⟨16, 0, none⟩ = some (.slice (some ⟨g, o, none⟩) 23 c)
  a : ∀ i, i < 23 → ∃ x : Nat, Fl.Pw x ∧ w.cell? ⟨g, o + i, none⟩ = some (.float .f64 x)
def FlBool (w : World) (e : Ending) (w' : World) : Prop := (∃ v b, e = .returned (.tuple #[.float .f64 v, .bool b])) ∧ w' = w
set_option maxRecDepth 100000 in
set_option maxHeartbeats 4000000 in
theorem exact_any (m : Nat) (p : Int) (g o c : Nat) (w : World) (hX : PX g o c w) (hI : w.cell? ⟨11, 0, none⟩ = some (.int .u64 52)) (hp : -348 ≤ p ∧ p < 348) :
    Calls Tryz.prog 177 #[.int .u64 m, .int .i64 p, .bool false] w (FlBool w) := by
  have hv := hX.v
  by_cases hp0 : p = 0
  · subst hp0
    go_enter Tryz.func177, Tryz.ntmps177
    go_wp2
    all_goals
      exact bodyPost_ret (results_tmp2 rfl _ _ _) rfl ⟨⟨_, _, rfl⟩, rfl⟩
  by_cases hpos : 0 < p
  · obtain ⟨q, rfl⟩ : ∃ q : Nat, p = q := ⟨p.toNat, by omega⟩
    have b0 : ((q : Int) == 0) = false := by simp; omega
    have b1 : decide (0 < q) = true := by simp; omega
    by_cases h37 : 37 < q
    · have b2 : decide (q ≤ 37) = false := by simp; omega
      have b3 : decide ((q : Int) < 0) = false := by simp
      go_enter Tryz.func177, Tryz.ntmps177
      go_wp2
      all_goals
        exact bodyPost_ret (results_tmp2 rfl _ _ _) rfl ⟨⟨_, _, rfl⟩, rfl⟩
    have b2 : decide (q ≤ 37) = true := by simp; omega
    by_cases h22 : 22 < q
    · have b3 : decide (22 < q) = true := by simp; omega
      obtain ⟨x1, hp1, hx1⟩ := hX.a (q - 22) (by omega)
      obtain ⟨x2, hp2, hx2⟩ := hX.a 22 (by omega)
      obtain ⟨r1, hr1, hok1⟩ := Fl.mul_ok (Fl.ofInt_ok m) hp1
      obtain ⟨r2, hr2, hok2⟩ := Fl.mul_ok hok1 hp2
      have hm1 : ∀ w, (binOp .mul 29 (.float .f64 (floatOfInt .f64 m)) (.float .f64 x1)).run Tryz.prog w = .ok (.float .f64 r1) w := fun w => run_float_arith w .mul 29 .f64 _ _ _ hr1
      have hm2 : ∀ w, (binOp .mul 29 (.float .f64 r1) (.float .f64 x2)).run Tryz.prog w = .ok (.float .f64 r2) w := fun w => run_float_arith w .mul 29 .f64 _ _ _ hr2
      have hI2 : (q : Int) - 22 = ((q - 22 : Nat) : Int) := by omega
      go_enter Tryz.func177, Tryz.ntmps177
      go_wp2
      all_goals
        exact bodyPost_ret (results_tmp2 rfl _ _ _) rfl ⟨⟨_, _, rfl⟩, rfl⟩
    · have b3 : decide (22 < q) = false := by simp; omega
      obtain ⟨x1, hp1, hx1⟩ := hX.a q (by omega)
      obtain ⟨r1, hr1, hok1⟩ := Fl.mul_ok (Fl.ofInt_ok m) hp1
      have hm1 : ∀ w, (binOp .mul 29 (.float .f64 (floatOfInt .f64 m)) (.float .f64 x1)).run Tryz.prog w = .ok (.float .f64 r1) w := fun w => run_float_arith w .mul 29 .f64 _ _ _ hr1
      go_enter Tryz.func177, Tryz.ntmps177
      go_wp2
      all_goals
        exact bodyPost_ret (results_tmp2 rfl _ _ _) rfl ⟨⟨_, _, rfl⟩, rfl⟩
  · obtain ⟨q, hq⟩ : ∃ q : Nat, -p = q := ⟨(-p).toNat, by omega⟩
    have b0 : (p == 0) = false := by simp; omega
    have b1 : decide (0 < p) = false := by simp; omega
    have b2 : decide (p < 0) = true := by simp; omega
    by_cases h22 : p < -22
    · have b3 : decide (-22 ≤ p) = false := by simp; omega
      go_enter Tryz.func177, Tryz.ntmps177
      go_wp2
      all_goals
        exact bodyPost_ret (results_tmp2 rfl _ _ _) rfl ⟨⟨_, _, rfl⟩, rfl⟩
    · have b3 : decide (-22 ≤ p) = true := by simp; omega
      obtain ⟨x1, hp1, hx1⟩ := hX.a q (by omega)
      obtain ⟨r1, hr1, hok1⟩ := Fl.quo_ok (Fl.ofInt_ok m) hp1
      have hm1 : ∀ w, (binOp .quo 29 (.float .f64 (floatOfInt .f64 m)) (.float .f64 x1)).run Tryz.prog w = .ok (.float .f64 r1) w := fun w => run_float_arith w .quo 29 .f64 _ _ _ hr1
      go_enter Tryz.func177, Tryz.ntmps177
      go_wp2
      all_goals
        exact bodyPost_ret (results_tmp2 rfl _ _ _) rfl ⟨⟨_, _, rfl⟩, rfl⟩
end Go.Proofs.YtcgibcjpkhefpaaGreatDoor

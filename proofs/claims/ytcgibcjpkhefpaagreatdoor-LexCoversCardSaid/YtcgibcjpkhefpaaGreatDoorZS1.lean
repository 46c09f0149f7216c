/-
  digits.sticky (120) and digits.exact (101) at any text, to a base that is not ten.
-/
import Derived.Test.YtcgibcjpkhefpaaGreatDoorZK
import Derived.Test.YtcgibcjpkhefpaaGreatDoorZO
import Derived.Test.YtcgibcjpkhefpaaGreatDoorZU3
import Derived.Laws.Externs
namespace Go.Proofs.YtcgibcjpkhefpaaGreatDoor
open Go.RowKit
theorem run_add (x y : Nat) (w : World) : (callFunc 141 #[.int .u64 x, .int .u64 y, .int .u64 0]).run Tryz.prog w =
      .ok (.value (.tuple #[.int .u64 (((x + y) % 18446744073709551616 : Nat) : Int), .int .u64 (((x + y) / 18446744073709551616 : Nat) : Int)])) w := by
  rw [run_callFunc_extern Tryz.func141 (by kernel_rfl) (by kernel_rfl) (by kernel_rfl) (e := add64Entry) (by kernel_rfl), run_add64 x y 0 (by omega) (by omega) (by omega) (by omega)]
  simp only [Result.andThen]
  congr 5 <;> omega
theorem info113 : (Tryz.prog.info? 113).map (fun i => (i.zero, i.size, i.bytes)) = some (some (.int .u64 0), 1, 8) := by kernel_rfl
/-- Words of 64 bits. -/
def Nums (xs : List Value) : Prop := ∀ u ∈ xs, ∃ m : Nat, m < 18446744073709551616 ∧ u = .int .u64 m
theorem Nums.at {xs : List Value} (h : Nums xs) {i : Nat} (hi : i < xs.length) : ∃ m : Nat, m < 18446744073709551616 ∧ xs[i]? = some (.int .u64 m) := by
  obtain ⟨m, h1, h2⟩ := h _ (List.getElem_mem hi)
  exact ⟨m, h1, by rw [List.getElem?_eq_getElem hi, h2]⟩
theorem Nums.set {xs : List Value} (h : Nums xs) (i m : Nat) (hm : m < 18446744073709551616) : Nums (xs.set i (.int .u64 m)) := by
  intro u hu
  rcases List.mem_or_eq_of_mem_set hu with h1 | h1
  · exact h u h1
  · exact ⟨m, hm, h1⟩
theorem Nums.snoc {xs : List Value} (h : Nums xs) (m : Nat) (hm : m < 18446744073709551616) : Nums (xs ++ [.int .u64 m]) := by
  intro u hu
  rcases List.mem_append.1 hu with h1 | h1
  · exact h u h1
  · exact ⟨m, hm, by simpa using h1⟩
set_option maxHeartbeats 16000000 in
set_option maxRecDepth 100000 in
theorem sticky_any (t : ByteArray) (b : Nat) (w : World) (ht : t.size ≤ 262144) (hb : b ≤ 36) : Calls Tryz.prog 120 #[.string t, .int .i64 b] w (FloPost w) := by
  have hadd := run_add
  go_enter Tryz.func120, Tryz.ntmps120
  go_wp2
  go_loopw [5, 19] (fun v i wr => ∃ (k n : Nat) (xs : List Value), i = .int .i64 k ∧ k ≤ t.size ∧ n ≤ k ∧ wr.ownsRow w.heap.size 113 1 v n xs ∧ Nums xs ∧ Below w.heap.size w wr) (fun _ i _ => t.size - (intOf i).toNat)
  case atStart => exact ⟨0, 0, [], rfl, by omega, by omega, ⟨by simp, Or.inl ⟨rfl, rfl⟩⟩, fun u hu => (by cases hu), Below.refl _ _⟩
  case round =>
    obtain ⟨k, n, xs, rfl, hk, hn, hown, hxs, hB⟩ := hrel
    have HO := Lib.hid hown
    have HB := Lib.hid hB
    have HX := Lib.hid hxs
    obtain ⟨a, cap, rfl⟩ := own_form hown
    clear hown hB hxs
    by_cases hlt : k < t.size
    · have hw99 : Lx.worth (t[k]'hlt) ≤ 99 := by unfold Lx.worth; split <;> (try split) <;> omega
      go_wp2_with fail
      refine (worth_any _ _).mono ?_
      rintro e w1 ⟨rfl, rfl⟩
      generalize Lx.worth (t[k]'hlt) = W0 at *
      go_wp2_with fail
      go_loopw [7, 29] (fun c i wq => ∃ (q C : Nat) (ys : List Value), i = .int .i64 q ∧ c = .int .u64 C ∧ C < 18446744073709551616 ∧ q ≤ n ∧ wq.ownsRow w.heap.size 113 1 (.slice a n cap) n ys ∧ Nums ys ∧ Below w.heap.size w wq) (fun _ i _ => n - (intOf i).toNat)
      case atStart => exact ⟨0, W0, xs, rfl, rfl, by omega, by omega, HO.out, HX.out, HB.out⟩
      case round =>
        obtain ⟨q, C, ys, rfl, rfl, hC, hq, hown, hys, hB⟩ := hrel
        have hyl : ys.length = n := by have := hown.1; omega
        have HO2 := Lib.hid hown
        have HB2 := Lib.hid hB
        have HY2 := Lib.hid hys
        by_cases hqn : q < n
        · obtain ⟨g, rfl, hnc, hcm, -⟩ := own_cells hown (by omega)
          obtain ⟨m, hm, hmv⟩ := hys.at (i := q) (by omega)
          have hcl := hown.cellAt q (by omega)
          rw [hmv] at hcl
          have hfz := hown.frozenAt q
          have hgl := hown.lt g rfl
          have hqc : q ≤ cap := by omega
          clear hown hB hys hmv
          go_wp2_with fail
          refine (Tryz.bits_Mul64 m b hm (by omega) _).mono ?_
          rintro e w2 ⟨rfl, rfl⟩
          have hc1 : m * b / 18446744073709551616 ≤ 36 := by
            have h1 : m * b ≤ 18446744073709551615 * 36 := Nat.mul_le_mul (by omega) hb
            omega
          have hc2 : m * b % 18446744073709551616 < 18446744073709551616 := Nat.mod_lt _ (by decide)
          obtain ⟨h1, hh1⟩ : ∃ h1, m * b / 18446744073709551616 = h1 := ⟨_, rfl⟩
          obtain ⟨h2, hh2⟩ : ∃ h2, m * b % 18446744073709551616 = h2 := ⟨_, rfl⟩
          rw [hh1] at hc1
          rw [hh2] at hc2
          rw [hh1, hh2]
          clear hh1 hh2
          have hs1 : (h2 + C) % 18446744073709551616 < 18446744073709551616 := Nat.mod_lt _ (by decide)
          have hs2 : (h2 + C) / 18446744073709551616 ≤ 1 := by omega
          go_wp2_with fail
          have hcast : Value.int .u64 (((h2 : Int) + C) % 18446744073709551616) = .int .u64 (((h2 + C) % 18446744073709551616 : Nat) : Int) := congrArg (Value.int .u64) (by omega)
          rw [hcast]
          refine ⟨⟨q + 1, h1 + (h2 + C) / 18446744073709551616, ys.set q (.int .u64 (((h2 + C) % 18446744073709551616 : Nat) : Int)), congrArg (Value.int .i64) (by omega), congrArg (Value.int .u64) (by omega), by omega, by omega, (HO2.out.stored q _).1, HY2.out.set _ _ hs1, HB2.out.setCell (p := ⟨g, q, none⟩) hgl.1 _⟩, by simp [intOf]; omega⟩
        · clear hown hB hys
          obtain rfl : q = n := by omega
          by_cases hC0 : 0 < C
          · have b0 : decide (0 < C) = true := by simp; omega
            obtain ⟨i0, hi, hz0, hz1, hz2⟩ := info_parts info113
            have HI := Lib.hid (And.intro hi (And.intro hz0 (And.intro hz1 hz2)))
            clear hi hz0 hz1 hz2
            go_wp2_with (at_builtin; go_loud (refine wpList_append_own _ rfl (.tmp 58) (.tmp 60) 175 rfl w.heap.size 113 i0 (.int .u64 0) 1 8 Tryz.underlying175 HI.out.1 HI.out.2.1 HI.out.2.2.1 HI.out.2.2.2 rfl (by decide) _ _ _ rfl (HO2.out.alloc _) ⟨wr.heap.size, 0, none⟩ 1 1 [.int .u64 C] rfl rfl ?c1 ?c2 ?c3 ?c4 ?c5 ?_))
            case c1 =>
              intro q u hq
              match q, hq with
              | 0, hq => simp at hq; subst hq; exact cell_newU rfl
            case c2 => intro u hu; simp at hu; subst hu; rfl
            case c3 => unfold maxLen; omega
            case c4 => omega
            case c5 => have := HB2.out.size; simp; omega
            intro v' w4 hown' hgrow _
            have HY := Lib.hid hown'
            have HB3 := Lib.hid (show Below w.heap.size w w4 from below_grown (HB2.out.alloc (by have := HB2.out.size; simpa using this) _) hgrow (by have := HB2.out.size; simp; omega) (fun k hk => (HO2.out.lt k hk).1))
            clear hown' hgrow
            go_wp2
            exact ⟨⟨k + 1, q + 1, ys ++ [.int .u64 C], congrArg (Value.int .i64) (by omega), by omega, by omega, HY.out, HY2.out.snoc _ hC, HB3.out⟩, by simp [intOf]; omega⟩
          · obtain rfl : C = 0 := by omega
            go_wp2
            exact ⟨⟨k + 1, q, ys, congrArg (Value.int .i64) (by omega), by omega, by omega, HO2.out, HY2.out, HB2.out⟩, by simp [intOf]; omega⟩
    · rcases Nat.eq_zero_or_pos n with rfl | hn0
      · go_wp2
        go_ret
        exact ⟨⟨_, rfl⟩, HB.out⟩
      obtain ⟨p, rfl⟩ : ∃ p, n = p + 1 := ⟨n - 1, by omega⟩
      obtain ⟨g, rfl, hnc, hcm, -⟩ := own_cells HO.out (by omega)
      have hcell : ∀ i, i < p + 1 → ∃ m : Nat, m < 18446744073709551616 ∧ wr.cell? ⟨g, i, none⟩ = some (.int .u64 m) := fun i hi => by
        obtain ⟨m, h1, h2⟩ := HX.out.at (i := i) (by have := HO.out.1; omega)
        exact ⟨m, h1, by rw [HO.out.cellAt i (by omega), h2]⟩
      have HC := Lib.hid hcell
      obtain ⟨m, hm, hmc⟩ := hcell p (by omega)
      have hpc : p ≤ cap := by omega
      clear hcell HO HX
      go_wp2_with fail
      refine (Tryz.bits_LeadingZeros64 (m : Int) _ (by omega) (by omega)).mono ?_
      rintro e w1 ⟨rfl, rfl⟩
      obtain ⟨z, hz, hz2⟩ : ∃ z : Nat, 64 - (Lib.bitLen (m : Int).toNat : Int) = z ∧ z ≤ 64 := by
        have : Lib.bitLen (m : Int).toNat ≤ 64 := bitLenAux_le _ _
        exact ⟨64 - Lib.bitLen (m : Int).toNat, by omega, by omega⟩
      rw [hz]
      clear hz
      go_upto_region 22 with fail
      go_cut [85] (fun b wc => ∃ B : Bool, b = .bool B ∧ (B = true → 0 < p ∧ 0 < z) ∧ w1 = wc)
      case first =>
        by_cases hp : 0 < p
        · have d1 : decide (0 < p) = true := by simp; omega
          by_cases hz : 0 < z
          · have d2 : decide (0 < z) = true := by simp; omega
            go_wp2
            go_meet
            case rel => exact ⟨true, rfl, fun _ => ⟨hp, hz⟩, rfl⟩
          · have d2 : decide (0 < z) = false := by simp; omega
            go_wp2
            go_meet
            case rel => exact ⟨false, rfl, fun h => (by cases h), rfl⟩
        · have d1 : decide (0 < p) = false := by simp; omega
          go_wp2
          go_meet
          case rel => exact ⟨false, rfl, fun h => (by cases h), rfl⟩
      case rest =>
        obtain ⟨B, rfl, hB, rfl⟩ := hcut
        have HBB := Lib.hid hB
        clear hB
        go_upto_if 85 with fail
        go_cut [14, 15] (fun a c wc => ∃ A C : Int, a = .int .u64 A ∧ c = .int .u64 C ∧ w1 = wc)
        case first =>
          cases B
          · by_cases hp : 0 < p
            · have d1 : decide (0 < p) = true := by simp; omega
              obtain ⟨q, rfl⟩ : ∃ q, p = q + 1 := ⟨p - 1, by omega⟩
              obtain ⟨m2, hm2, hmc2⟩ := HC.out q (by omega)
              have hqc : q ≤ cap := by omega
              go_wp2
              go_meet
              case rel => exact ⟨_, _, rfl, rfl, rfl⟩
            · have d1 : decide (0 < p) = false := by simp; omega
              go_wp2
              go_meet
              case rel => exact ⟨_, _, rfl, rfl, rfl⟩
          · obtain ⟨hp, hz⟩ := HBB.out rfl
            obtain ⟨q, rfl⟩ : ∃ q, p = q + 1 := ⟨p - 1, by omega⟩
            obtain ⟨m2, hm2, hmc2⟩ := HC.out q (by omega)
            have hqc : q ≤ cap := by omega
            have hz6 : 0 ≤ (64 : Int) - z := by omega
            go_wp2
            go_meet
            case rel => exact ⟨_, _, rfl, rfl, rfl⟩
        case rest =>
          obtain ⟨A, C, rfl, rfl, rfl⟩ := hcut
          clear hmc HBB
          go_wp2_with fail
          go_loopw [15, 16] (fun c i wq => ∃ (q : Nat) (C : Int), i = .int .i64 q ∧ q ≤ p ∧ c = .int .u64 C ∧ w1 = wq) (fun _ i _ => p - (intOf i).toNat)
          case atStart => exact ⟨0, C, rfl, by omega, rfl, rfl⟩
          case round =>
            obtain ⟨q, C2, rfl, hq, rfl, rfl⟩ := hrel
            by_cases hlq : (q : Int) < (p : Int) - 1
            · have d1 : decide ((q : Int) < (p : Int) - 1) = true := by simp; omega
              obtain ⟨m2, hm2, hmc2⟩ := HC.out q (by omega)
              have hqc : q ≤ cap := by omega
              go_wp2
              exact ⟨⟨q + 1, _, congrArg (Value.int .i64) (by omega), by omega, rfl, trivial⟩, by simp [intOf]; omega⟩
            · have d1 : decide ((q : Int) < (p : Int) - 1) = false := by simp; omega
              go_wp2_with fail
              all_goals
                refine (rounded_any _ _).mono ?_
                rintro e w2 ⟨⟨v, rfl⟩, k2, rfl⟩
                go_wp2_with fail
                refine (Ldexp_any _ _ _).mono ?_
                rintro e w3 ⟨⟨v3, rfl⟩, k3, rfl⟩
                go_wp2
                go_ret
                exact ⟨⟨_, rfl⟩, ((Kf.of_below (fun _ _ => False) HB.out).drewN _).below (Nat.le_refl _) (fun _ _ h => h.elim)⟩
theorem exact_num (t : ByteArray) (b : Nat) (w : World) (ht : t.size ≤ 262144) (hb : b ≤ 36) (h10 : b ≠ 10) : Calls Tryz.prog 101 #[.string t, .int .i64 b] w (FloPost w) := by
  have e1 : (b == 10) = false := by simp; omega
  have e2 : ((b : Int) == 10) = false := by simp; omega
  go_enter Tryz.func101, Tryz.ntmps101
  go_wp2_with fail
  refine (sticky_any t b _ ht hb).mono ?_
  rintro e w1 ⟨⟨v, rfl⟩, h⟩
  go_wp2
  go_ret
  exact ⟨⟨_, rfl⟩, h⟩
end Go.Proofs.YtcgibcjpkhefpaaGreatDoor

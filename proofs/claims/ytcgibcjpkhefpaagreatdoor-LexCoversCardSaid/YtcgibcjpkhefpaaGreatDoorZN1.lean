/-
  digits.decimal (102) at any text: how many bytes, and which bytes they can be.
-/
import Derived.Test.YtcgibcjpkhefpaaGreatDoorZK
import Derived.Deep.CutBlock
import Derived.Deep.DeepCutAuto
namespace Go.Lx
/-- A byte that a decimal number can hold. -/
def numB (c : UInt8) : Prop := (48 ≤ c.toNat ∧ c.toNat ≤ 57) ∨ c.toNat = 46 ∨ c.toNat = 101 ∨ c.toNat = 69 ∨ c.toNat = 43 ∨ c.toNat = 45
theorem worth_dig {c : UInt8} (h : worth c < 10) : 48 ≤ c.toNat ∧ c.toNat ≤ 57 := by
  unfold worth at h
  split at h
  · assumption
  · split at h <;> omega
theorem run_at {l : List UInt8} {n p i : Nat} (h : i < run l n p) : ∃ c, l[p + i]? = some c ∧ worth c < n := by
  unfold run at h
  have hp : (l.drop p).takeWhile (fun c => decide (worth c < n)) <+: l.drop p := List.takeWhile_prefix _
  obtain ⟨c, hc⟩ : ∃ c, ((l.drop p).takeWhile (fun c => decide (worth c < n)))[i]? = some c := ⟨_, List.getElem?_eq_getElem h⟩
  have h1 := List.mem_of_getElem? hc
  have h2 := List.all_eq_true.1 (List.all_takeWhile (p := fun c => decide (worth c < n)) (l := l.drop p)) c h1
  obtain ⟨s, hs⟩ := hp
  refine ⟨c, ?_, by simpa using h2⟩
  have h3 : (l.drop p)[i]? = some c := by
    rw [← hs, List.getElem?_append_left h]; exact hc
  rw [List.getElem?_drop] at h3
  exact h3
/-- The first n bytes are a decimal number's. -/
def NumTo (l : List UInt8) (n : Nat) : Prop := n ≤ l.length ∧ ∀ i c, i < n → l[i]? = some c → numB c
theorem numTo_run {l : List UInt8} {p : Nat} (h : NumTo l p) : NumTo l (p + run l 10 p) := by
  have hr := run_le (l := l) (n := 10) (p := p)
  refine ⟨by have := h.1; omega, fun i c hi hc => ?_⟩
  rcases Nat.lt_or_ge i p with hlt | hge
  · exact h.2 i c hlt hc
  · obtain ⟨c', hc', hw⟩ := run_at (l := l) (n := 10) (p := p) (i := i - p) (by omega)
    rw [show p + (i - p) = i by omega, hc] at hc'
    injection hc' with hc'
    subst hc'
    exact Or.inl (worth_dig hw)
theorem numTo_one {l : List UInt8} {p : Nat} {c : UInt8} (h : NumTo l p) (hc : l[p]? = some c) (hn : numB c) : NumTo l (p + 1) := by
  have := (List.getElem?_eq_some_iff.1 hc).1
  refine ⟨by omega, fun i c' hi hc' => ?_⟩
  rcases Nat.lt_or_ge i p with hlt | hge
  · exact h.2 i c' hlt hc'
  · have : i = p := by omega
    subst this
    rw [hc] at hc'; injection hc' with hc'; subst hc'; exact hn
end Go.Lx
namespace Go.Proofs.YtcgibcjpkhefpaaGreatDoor
open Go.RowKit
def DecPost (t : ByteArray) (w : World) (e : Ending) (w' : World) : Prop := (∃ n : Nat, e = .returned (.int .i64 n) ∧ Lx.NumTo t.data.toList n) ∧ Below w.heap.size w w'
theorem or101 : ∀ c : UInt8, bits .or .u8 (c.toNat : Int) 32 = 101 → c.toNat = 101 ∨ c.toNat = 69 := u8_all (by decide +kernel)
set_option maxHeartbeats 8000000 in
set_option maxRecDepth 100000 in
theorem decimal_any (t : ByteArray) (w : World) (ht : t.size ≤ 262144) : Calls Tryz.prog 102 #[.string t] w (DecPost t w) := by
  have hlen : t.data.toList.length = t.size := by simp
  have hcell : ∀ m, ((w.alloc (.cells #[.int .i64 10] 3)).drewN m).cell? ⟨w.heap.size, 0, none⟩ = some (.int .i64 (10 : Nat)) := fun m => cell_new0 (w := w) rfl
  have HB := Lib.hid (fun m => show Below w.heap.size w ((w.alloc (.cells #[.int .i64 10] 3)).drewN m) from (((Kf.refl (fun _ _ => False) w).alloc _).drewN _).below (Nat.le_refl _) (fun _ _ h => h.elim))
  have at? : ∀ i (h : i < t.size), t.data.toList[i]? = some (t[i]'h) := fun i h => by rw [List.getElem?_eq_getElem (by omega)]; simp; rfl
  have HAT := Lib.hid at?
  obtain ⟨a, ha⟩ : ∃ a, Lx.run t.data.toList 10 0 = a := ⟨_, rfl⟩
  have hN0 : Lx.NumTo t.data.toList a := by
    have := Lx.numTo_run (l := t.data.toList) (p := 0) ⟨by omega, fun i c hi => by omega⟩
    rwa [Nat.zero_add, ha] at this
  have HN0 := Lib.hid hN0
  have has : a ≤ t.size := by have := hN0.1; omega
  clear at? hN0
  go_enter Tryz.func102, Tryz.ntmps102
  go_wp2_with fail
  refine (digitsOf_any 10 w).mono ?_
  rintro e w1 ⟨rfl, rfl⟩
  go_wp2_with fail
  refine (run_any t 0 10 _ _ (by omega) (by omega) (hcell 0)).mono ?_
  rintro e w1 ⟨rfl, m1, rfl⟩
  rw [ha]
  clear ha
  go_upto_region 4 with fail
  go_cut [23] (fun b wc => ∃ B : Bool, b = .bool B ∧ (B = true → ∃ h : a < t.size, (t[a]'h).toNat = 46) ∧ (w.alloc (.cells #[.int .i64 10] 3)).drewN m1 = wc)
  case first =>
    by_cases hlt : a < t.size
    · have d1 : decide (a < t.size) = true := by simp; omega
      obtain ⟨v, hv⟩ : ∃ v, (t[a]'hlt).toNat = v := ⟨_, rfl⟩
      by_cases h46 : v = 46
      · subst h46
        go_wp2
        go_meet
        case rel => exact ⟨true, rfl, fun _ => ⟨hlt, hv⟩, rfl⟩
      · have e46 : (v == 46) = false := by simp; omega
        have e46I : ((v : Int) == 46) = false := by simp; omega
        go_wp2
        go_meet
        case rel => exact ⟨false, rfl, fun h => (by cases h), rfl⟩
    · have d1 : decide (a < t.size) = false := by simp; omega
      go_wp2
      go_meet
      case rel => exact ⟨false, rfl, fun h => (by cases h), rfl⟩
  case rest =>
    obtain ⟨B, rfl, hB, rfl⟩ := hcut
    have HBB := Lib.hid hB
    clear hB
    go_upto_if 23 with fail
    go_cut [5, 6] (fun i pt wc => ∃ n pa m : Nat, i = .int .i64 n ∧ pt = .int .i64 pa ∧ Lx.NumTo t.data.toList n ∧ pa ≤ 262144 ∧ (w.alloc (.cells #[.int .i64 10] 3)).drewN m = wc)
    case first =>
      cases B
      · go_wp2
        go_meet
        case rel => exact ⟨a, 0, m1, rfl, rfl, HN0.out, by omega, rfl⟩
      · obtain ⟨hlt, h46⟩ := HBB.out rfl
        obtain ⟨b, hb⟩ : ∃ b, Lx.run t.data.toList 10 (a + 1) = b := ⟨_, rfl⟩
        have hN1 : Lx.NumTo t.data.toList (a + 1 + b) := by
          have h1 := Lx.numTo_one HN0.out (HAT.out a hlt) (Or.inr (Or.inl h46))
          have := Lx.numTo_run h1
          rwa [hb] at this
        have hbl : b ≤ 262144 := by have := hN1.1; omega
        have HN1 := Lib.hid hN1
        clear hN1 h46
        go_wp2_with fail
        refine (run_any t (a + 1) 10 _ _ (by omega) (by omega) (hcell m1)).mono ?_
        rintro e w2 ⟨rfl, m2, rfl⟩
        rw [hb]
        go_wp2
        go_meet
        case rel => exact ⟨a + 1 + b, b, _, congrArg (Value.int .i64) (by omega), rfl, HN1.out, hbl, rfl⟩
    case rest =>
      obtain ⟨n, pa, m, rfl, rfl, hN, hpa, rfl⟩ := hcut
      have HN := Lib.hid hN
      have hns : n ≤ t.size := by have := hN.1; omega
      have hnext : ∀ (q : Nat) (h : q < t.size), Lx.NumTo t.data.toList q → Lx.numB (t[q]'h) → Lx.NumTo t.data.toList (q + 1) := fun q h h1 h2 => Lx.numTo_one h1 (HAT.out q h) h2
      have HNX := Lib.hid hnext
      clear hN hnext HBB B m1
      by_cases h0 : a + pa = 0
      · have b0 : (a + pa == 0) = true := by simp; omega
        have b0I : ((a : Int) + pa == 0) = true := by simp; omega
        go_wp2
        all_goals
          go_ret
          exact ⟨⟨0, rfl, by omega, fun i c hi => by omega⟩, HB.out _⟩
      have b0 : (a + pa == 0) = false := by simp; omega
      have b0I : ((a : Int) + pa == 0) = false := by simp; omega
      go_upto_region 9 with fail
      go_cut [47] (fun b wc => ∃ B : Bool, b = .bool B ∧ (B = true → ∃ h : n < t.size, bits .or .u8 ((t[n]'h).toNat : Int) 32 = 101) ∧ (w.alloc (.cells #[.int .i64 10] 3)).drewN m = wc)
      case first =>
        by_cases hlt : n < t.size
        · have d1 : decide (n < t.size) = true := by simp; omega
          by_cases he : bits .or .u8 ((t[n]'hlt).toNat : Int) 32 = 101
          · have he2 : (bits .or .u8 ((t[n]'hlt).toNat : Int) 32 == 101) = true := by rw [he]; rfl
            go_wp2
            go_meet
            case rel => exact ⟨true, rfl, fun _ => ⟨hlt, he⟩, rfl⟩
          · have he2 : (bits .or .u8 ((t[n]'hlt).toNat : Int) 32 == 101) = false := beq_eq_false_iff_ne.2 he
            go_wp2
            go_meet
            case rel => exact ⟨false, rfl, fun h => (by cases h), rfl⟩
        · have d1 : decide (n < t.size) = false := by simp; omega
          go_wp2
          go_meet
          case rel => exact ⟨false, rfl, fun h => (by cases h), rfl⟩
      case rest =>
        obtain ⟨B, rfl, hB, rfl⟩ := hcut
        have HBB := Lib.hid hB
        clear hB
        cases B
        · go_wp2
          go_ret
          exact ⟨⟨n, rfl, HN.out⟩, HB.out _⟩
        obtain ⟨hlt, he⟩ := HBB.out rfl
        have HN2 := Lib.hid (HNX.out n hlt HN.out (by rcases or101 _ he with h | h; exact Or.inr (Or.inr (Or.inl h)); exact Or.inr (Or.inr (Or.inr (Or.inl h)))))
        clear HBB he
        go_upto_region 11 with fail
        go_cut [65] (fun b wc => ∃ B : Bool, b = .bool B ∧ (B = true → ∃ h : n + 1 < t.size, (t[n + 1]'h).toNat = 43 ∨ (t[n + 1]'h).toNat = 45) ∧ (w.alloc (.cells #[.int .i64 10] 3)).drewN m = wc)
        case first =>
          by_cases hlt1 : n + 1 < t.size
          · have d1 : decide (n + 1 < t.size) = true := by simp; omega
            have d1I : decide ((n : Int) + 1 < t.size) = true := by simp; omega
            obtain ⟨v, hv⟩ : ∃ v, (t[n + 1]'hlt1).toNat = v := ⟨_, rfl⟩
            by_cases h43 : v = 43
            · subst h43
              go_wp2
              go_meet
              case rel => exact ⟨true, rfl, fun _ => ⟨hlt1, Or.inl hv⟩, rfl⟩
            · have e43 : (v == 43) = false := by simp; omega
              have e43I : ((v : Int) == 43) = false := by simp; omega
              by_cases h45 : v = 45
              · subst h45
                go_wp2
                go_meet
                case rel => exact ⟨true, rfl, fun _ => ⟨hlt1, Or.inr hv⟩, rfl⟩
              · have e45 : (v == 45) = false := by simp; omega
                have e45I : ((v : Int) == 45) = false := by simp; omega
                go_wp2
                go_meet
                case rel => exact ⟨false, rfl, fun h => (by cases h), rfl⟩
          · have d1 : decide (n + 1 < t.size) = false := by simp; omega
            have d1I : decide ((n : Int) + 1 < t.size) = false := by simp; omega
            go_wp2
            go_meet
            case rel => exact ⟨false, rfl, fun h => (by cases h), rfl⟩
        case rest =>
          obtain ⟨B, rfl, hB, rfl⟩ := hcut
          have HBB := Lib.hid hB
          clear hB
          go_upto_if 65 with fail
          go_cut [7] (fun i wc => ∃ q : Nat, i = .int .i64 q ∧ Lx.NumTo t.data.toList q ∧ (w.alloc (.cells #[.int .i64 10] 3)).drewN m = wc)
          case first =>
            cases B
            · go_wp2
              go_meet
              case rel => exact ⟨n + 1, congrArg (Value.int .i64) (by omega), HN2.out, rfl⟩
            · obtain ⟨hlt1, h4⟩ := HBB.out rfl
              have HN3 := Lib.hid (HNX.out (n + 1) hlt1 HN2.out (by rcases h4 with h | h; exact Or.inr (Or.inr (Or.inr (Or.inr (Or.inl h)))); exact Or.inr (Or.inr (Or.inr (Or.inr (Or.inr h))))))
              go_wp2
              go_meet
              case rel => exact ⟨n + 1 + 1, congrArg (Value.int .i64) (by omega), HN3.out, rfl⟩
          case rest =>
            obtain ⟨q, rfl, hq, rfl⟩ := hcut
            obtain ⟨k, hk⟩ : ∃ k, Lx.run t.data.toList 10 q = k := ⟨_, rfl⟩
            have HQ := Lib.hid (show Lx.NumTo t.data.toList (q + k) by rw [← hk]; exact Lx.numTo_run hq)
            have hqs : q ≤ t.size := by have := hq.1; omega
            have hks : q + k ≤ t.size := by have := HQ.out.1; omega
            clear hq HBB
            go_wp2_with fail
            refine (run_any t q 10 _ _ (by omega) (by omega) (hcell m)).mono ?_
            rintro e w2 ⟨rfl, m2, rfl⟩
            rw [hk]
            by_cases hk0 : 0 < k
            · have d1 : decide (0 < k) = true := by simp; omega
              go_wp2
              go_ret
              exact ⟨⟨q + k, congrArg (fun z => Ending.returned (.int .i64 z)) (by omega), HQ.out⟩, HB.out _⟩
            · have d1 : decide (0 < k) = false := by simp; omega
              go_wp2
              go_ret
              exact ⟨⟨n, rfl, HN.out⟩, HB.out _⟩
end Go.Proofs.YtcgibcjpkhefpaaGreatDoor

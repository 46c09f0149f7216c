/-
  The small parts of parseFloat64: prescale (190), uscale (191), pack64 (197), round (194) .. at any numbers.
-/
import Derived.Test.YtcgibcjpkhefpaaGreatDoorShelf
import Derived.Test.YtcgibcjpkhefpaaGreatDoorZB
import Derived.Laws.BitsAllLaws
import Derived.Laws.Externs
import Derived.OpenShut
import GoSem.Extern.MathFloatBits
namespace Go.Proofs.YtcgibcjpkhefpaaGreatDoor
open Go.RowKit
abbrev M64 : Nat := 18446744073709551616
/-- Some number of 64 bits is returned, nothing is written. -/
def NumPost (w : World) (e : Ending) (w' : World) : Prop := (∃ n : Nat, n < 18446744073709551616 ∧ e = .returned (.int .u64 n)) ∧ w' = w
theorem numV (E : Int) (h : 0 ≤ E) : Value.int .u64 E = Value.int .u64 ((E.toNat : Nat) : Int) := congrArg (Value.int .u64) (by omega)
theorem bool2u (b : Bool) (w : World) : Calls Tryz.prog 175 #[.bool b] w fun e w' => e = .returned (.int .u64 (if b then (1 : Nat) else (0 : Nat))) ∧ w' = w := by
  go_enter Tryz.func175, Tryz.ntmps175
  cases b
  all_goals
    go_wp2
    go_ret
    exact ⟨rfl, rfl⟩
theorem unmin_one (w : World) : Calls Tryz.prog 192 #[.int .u64 9007199254740992] w fun e w' => e = .returned (.int .u64 36028797018963966) ∧ w' = w := by
  go_enter Tryz.func192, Tryz.ntmps192
  go_wp2
  go_ret
  exact ⟨rfl, rfl⟩
theorem and_range (a : Int) (m : Nat) (hm : m < 18446744073709551616) (h : 0 ≤ a ∧ a < 18446744073709551616) : ∃ n : Nat, n ≤ m ∧ bits .and .u64 a (m : Int) = n := by
  refine ⟨a.toNat &&& m, Nat.and_le_right, ?_⟩
  rw [u64_and a m h.1 h.2 (by omega) (by omega)]
  simp
theorem round_any (n : Nat) (w : World) (hn : n < 18446744073709551616) : Calls Tryz.prog 194 #[.int .u64 n] w (NumPost w) := by
  obtain ⟨m, hm, he⟩ := and_range ((n : Int) / 4) 1 (by omega) (by omega)
  have he : bits .and .u64 ((n : Int) / 4) 1 = m := he
  go_enter Tryz.func194, Tryz.ntmps194
  go_wp2
  go_ret
  refine ⟨⟨(IntKind.u64.wrap (IntKind.u64.wrap (↑n + 1) + m) / 4).toNat, ?_, congrArg Ending.returned (congrArg (Value.int .u64) ?_)⟩, rfl⟩
  · rw [IntKind.wrap_u64]; omega
  · rw [IntKind.wrap_u64]; omega
theorem log2p (p : Int) (h1 : -400 ≤ p) (h2 : p ≤ 400) (w : World) : Calls Tryz.prog 189 #[.int .i64 p] w fun e w' => e = .returned (.int .i64 (p * 108853 / 32768)) ∧ w' = w := by
  go_enter Tryz.func189, Tryz.ntmps189
  go_wp2
  go_ret
  exact ⟨rfl, rfl⟩
theorem run_frombits (n : Int) (w : World) : (callFunc 176 #[.int .u64 n]).run Tryz.prog w = .ok (.value (.float .f64 n.toNat)) w := by
  rw [run_callFunc_extern Tryz.func176 (by kernel_rfl) (by kernel_rfl) (by kernel_rfl) (e := Extern.MathFloatBits.float64frombits) (by kernel_rfl)]
  rfl
/-- A float and no error, or the error of range. -/
def FlErr (e : Ending) : Prop := ∃ v, e = .returned (.tuple #[.float .f64 v, .nilIface]) ∨ e = .returned (.tuple #[.float .f64 v, .iface 165 (.int .i64 1)])
set_option maxRecDepth 100000 in
theorem pack_any (m : Int) (x : Int) (h1 : -4000 ≤ x) (h2 : x ≤ 4000) (w : World) : Calls Tryz.prog 197 #[.int .u64 m, .int .i64 x] w fun e w' => FlErr e ∧ w' = w := by
  have hfb := run_frombits
  go_enter Tryz.func197, Tryz.ntmps197
  go_wp2
  all_goals
    first
    | exact bodyPost_ret (v := .tuple #[.float .f64 _, .nilIface]) (by simp [results, Tryz.results197]; rfl) rfl ⟨⟨_, Or.inl rfl⟩, rfl⟩
    | exact bodyPost_ret (v := .tuple #[.float .f64 _, .iface 165 (.int .i64 1)]) (by simp [results, Tryz.results197]; rfl) rfl ⟨⟨_, Or.inr rfl⟩, rfl⟩
/-- The table of powers of ten: pairs of numbers. -/
def PW (w : World) : Prop := ∀ i, i < 696 → ∃ a b : Nat, a < 18446744073709551616 ∧ b < 18446744073709551616 ∧ w.cell? ⟨17, i * 2, none⟩ = some (.int .u64 a) ∧ w.cell? ⟨17, i * 2 + 1, none⟩ = some (.int .u64 b)
/-- The scaling constants at block S. -/
def Sca (S : Nat) (a b : Nat) (s : Int) (w : World) : Prop := w.heap[S]? = some (.cells #[.int .u64 a, .int .u64 b, .int .i64 s] 235 (0, 0))
set_option maxRecDepth 100000 in
set_option maxHeartbeats 2000000 in
theorem prescale_any (S : Nat) (x0 y0 : Nat) (s0 : Int) (e p lp : Int) (w : World) (h : Sca S x0 y0 s0 w) (hP : PW w) (hS : 17 < S) (hp : -348 ≤ p ∧ p < 348) (he : -10000 ≤ e ∧ e ≤ 10000) (hlp : -10000 ≤ lp ∧ lp ≤ 10000) :
    Calls Tryz.prog 190 #[.pointer (some ⟨S, 0, none⟩), .int .i64 e, .int .i64 p, .int .i64 lp] w fun en w' => en = .returned (.tuple #[]) ∧ Kf (So S) w w' ∧ ∃ a b : Nat, a < 18446744073709551616 ∧ b < 18446744073709551616 ∧ Sca S a b (-(e + lp + 3)) w' := by
  obtain ⟨i, hi⟩ : ∃ i : Nat, p - -348 = i := ⟨(p - -348).toNat, by omega⟩
  have hi2 : p + 348 = i := by omega
  obtain ⟨a, b, ha, hb, ca, cb⟩ := hP i (by omega)
  have k0 : w.cell? ⟨S, 0, none⟩ = some (.int .u64 x0) := by simp [World.cell?, show w.heap[S]? = _ from h]
  have k1 : w.cell? ⟨S, 1, none⟩ = some (.int .u64 y0) := by simp [World.cell?, show w.heap[S]? = _ from h]
  have k2 : w.cell? ⟨S, 2, none⟩ = some (.int .i64 s0) := by simp [World.cell?, show w.heap[S]? = _ from h]
  have f0 : ∀ i, w.frozen? ⟨S, i, none⟩ = false := fun i => by simp [World.frozen?, show w.heap[S]? = _ from h]
  have hS17 : 17 ≠ S := by omega
  have hS17' : S ≠ 17 := by omega
  have H := Lib.hid h
  clear h
  go_enter Tryz.func190, Tryz.ntmps190
  go_wp2
  refine bodyPost_end (v := .tuple #[]) (results_none rfl _ _ _) rfl ⟨rfl, (((Kf.refl _ _).setB _ _).setB _ _).setB _ _, a, b, ha, hb, ?_⟩
  unfold Sca
  rw [heap_setSelf (heap_setSelf (heap_setSelf H.out _ _) _ _)]
  rfl
theorem bits_num (op : BinOp) (x y : Int) : ∃ m : Nat, m < 18446744073709551616 ∧ bits op .u64 x y = m := by
  have h := bounds_u64 (wf_bits op .u64 x y)
  exact ⟨(bits op .u64 x y).toNat, by omega, by omega⟩
theorem ret_bits (op : BinOp) (x y : Int) : ∃ m : Nat, m < 18446744073709551616 ∧ Ending.returned (.int .u64 (bits op .u64 x y)) = .returned (.int .u64 m) := by
  obtain ⟨m, hm, he⟩ := bits_num op x y
  exact ⟨m, hm, by rw [he]⟩
theorem and63 : ∀ s : Nat, s < 64 → bits .and .i64 (s : Int) 63 = s := by decide +kernel
set_option maxRecDepth 100000 in
set_option maxHeartbeats 2000000 in
theorem uscale_any (S a b s n : Nat) (w : World) (h : Sca S a b (s : Int) w) (hn : n < 18446744073709551616) (ha : a < 18446744073709551616) (hb : b < 18446744073709551616) (hs : s < 64) :
    Calls Tryz.prog 191 #[.int .u64 n, .pointer (some ⟨S, 0, none⟩)] w fun e w' => (∃ m : Nat, m < 18446744073709551616 ∧ e = .returned (.int .u64 m)) ∧ ∃ k, w' = w.drewN k := by
  have k0 : w.cell? ⟨S, 0, none⟩ = some (.int .u64 a) := by simp [World.cell?, show w.heap[S]? = _ from h]
  have k1 : w.cell? ⟨S, 1, none⟩ = some (.int .u64 b) := by simp [World.cell?, show w.heap[S]? = _ from h]
  have k2 : w.cell? ⟨S, 2, none⟩ = some (.int .i64 s) := by simp [World.cell?, show w.heap[S]? = _ from h]
  have h63 := and63 s hs
  go_enter Tryz.func191, Tryz.ntmps191
  go_wp2_with fail
  refine (Tryz.bits_Mul64 n a hn ha w).mono ?_
  rintro e w1 ⟨rfl, rfl⟩
  generalize n * a / 18446744073709551616 = hi1
  generalize n * a % 18446744073709551616 = lo1
  go_wp2_with fail
  · go_ret
    exact ⟨ret_bits _ _ _, 0, rfl⟩
  · refine (Tryz.bits_Mul64 n b hn hb _).mono ?_
    rintro e w2 ⟨rfl, rfl⟩
    generalize n * b / 18446744073709551616 = hi2
    generalize n * b % 18446744073709551616 = lo2
    go_wp2_with fail
    refine (bool2u _ _).mono ?_
    rintro e w3 ⟨rfl, rfl⟩
    go_wp2_with fail
    all_goals
      go_quiet ((go_at_call 175; exact Calls.quiet_of_same (bool2u _ _)))
      go_wp2
    all_goals
      go_ret
      exact ⟨ret_bits _ _ _, _, rfl⟩
end Go.Proofs.YtcgibcjpkhefpaaGreatDoor

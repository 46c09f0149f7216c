/-
  A part of the proof: the deferred closure of each, without a panic and with one.
-/
import Derived.Test.YtcgibcjpkhefpaaGreatDoorZB
import Derived.Defers
import Derived.Recover
import Derived.Laws.Pointers
namespace Go.Proofs.YtcgibcjpkhefpaaGreatDoor
open Go.RowKit
set_option maxHeartbeats 1000000 in
set_option maxRecDepth 100000 in
theorem catch_idle (pa pe : Addr) (w : World) :
    CallsD Tryz.prog 33 #[.pointer (some pa), .pointer (some pe)] .returning w fun e u' w' => e = .returned (.tuple #[]) ∧ u' = .returning ∧ w' = w := by
  refine callsD_of_wpS Tryz.func33 rfl fun c₀ cs hu => ?_
  apply wpS_seq
  apply wpS_region
  simp [wpOpsS, go_sem, recoverD, hu, Tryz.ntmps33, Exit.thenS]
  apply wpS_seq
  apply wpS_region
  simp [wpOpsS, go_sem, Exit.thenS]
  refine wpS_cond (t := false) (by simp [Act.eval, Array.replicate]) ?_
  simp only [Bool.false_eq_true, if_false]
  refine wpS_of_wp (wp_skip ?_)
  cases c₀
  simp_all [bodyPostS, results, Tryz.results33]
set_option maxHeartbeats 1000000 in
set_option maxRecDepth 100000 in
theorem catch_panicking (pa pe : Addr) (a : Int) (older : List PanicEntry) (w : World) (x y : Value) (h1 : (w.alloc (.cells #[.int .i64 a] 62)).cell? pa = some x) (h2 : (w.alloc (.cells #[.int .i64 a] 62)).frozen? pa = false) (h3 : ((w.alloc (.cells #[.int .i64 a] 62)).setCell pa (.int .i64 a)).cell? pe = some y) (h4 : ((w.alloc (.cells #[.int .i64 a] 62)).setCell pa (.int .i64 a)).frozen? pe = false) :
    CallsD Tryz.prog 33 #[.pointer (some pa), .pointer (some pe)] (.panicking ({ v := .iface 62 (.agg #[.int .i64 a]), recovered := false } :: older)) w fun e u' w' => e = .returned (.tuple #[]) ∧ u' = .panicking ({ v := .iface 62 (.agg #[.int .i64 a]), recovered := true } :: older) ∧ w' = ((w.alloc (.cells #[.int .i64 a] 62)).setCell pa (.int .i64 a)).setCell pe (.int .i64 50) := by
  refine callsD_of_wpS Tryz.func33 rfl fun c₀ cs hu => ?_
  apply wpS_seq
  apply wpS_region
  simp [wpOpsS, go_sem, recoverD, hu, Tryz.ntmps33, Exit.thenS]
  apply wpS_seq
  apply wpS_region
  simp [wpOpsS, go_sem, Exit.thenS]
  refine wpS_cond (t := true) (by simp [Act.eval, Array.replicate]) ?_
  simp only [if_true]
  change Code.wpS _ _ _ { tmps := #[.pointer (some pa), .pointer (some pe), .iface 62 (.agg #[.int .i64 a]), undef, undef, .iface 62 (.agg #[.int .i64 a]), .iface 62 (.agg #[.int .i64 a]), .bool true, undef, undef, undef, undef, undef, undef, undef, undef, undef, undef], defers := [] } _ _
  refine wpS_of_wp ?_
  have hta : ∀ w : World, (Instr.typeAssert (.iface 62 (.agg #[.int .i64 a])) 20 62 true).run Tryz.prog w = .ok (.tuple #[.agg #[.int .i64 a], .bool true]) w := fun _ => rfl
  go_wp2
  simp_all [bodyPostS, results, Tryz.results33]
end Go.Proofs.YtcgibcjpkhefpaaGreatDoor

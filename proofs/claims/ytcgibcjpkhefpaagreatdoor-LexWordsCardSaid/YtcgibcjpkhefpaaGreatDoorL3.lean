/-
  The law LexWords, walked: true at every text.
-/
import Derived.Test.YtcgibcjpkhefpaaGreatDoorW34
import Derived.Test.YtcgibcjpkhefpaaGreatDoorW35
namespace Go.Proofs.YtcgibcjpkhefpaaGreatDoor
open Go.RowKit
/-- What the laws ask of the memory that they begin in. -/
structure Ready (w : World) : Prop where
  max : MaxOk w
  fv : FvOk w
  tab : ∀ w', Below w.heap.size w w' → Lib.TabIs Tryz.prog w' "strings.asciiSpace" .u8 Lib.asciiSpaceTab
theorem Ready.max_at {w0 w : World} (h : Ready w0) (hb : Below w0.heap.size w0 w) : ∃ m, w.cell? ⟨1, 0, none⟩ = some (.int .i64 m) := by
  obtain ⟨h1, m, hm⟩ := h.max
  exact ⟨m, by rw [hb.cell (p := ⟨1, 0, none⟩) h1]; exact hm⟩
theorem drew_below (w : World) (k : Nat) : Below w.heap.size w (w.drewN k) := ((Kf.refl (fun _ _ => False) w).drewN k).below (Nat.le_refl _) (fun _ _ h => h.elim)
set_option maxHeartbeats 4000000 in
set_option maxRecDepth 100000 in
theorem words_law (s : ByteArray) (w : World) (hR : Ready w) :
    Calls Tryz.prog 3 #[.string s] w fun e w' => e = .returned (.bool true) ∧ Below w.heap.size w w' := by
  have HR := Lib.hid hR
  clear hR
  by_cases hs : 2000 < s.size
  · have hd : decide ((s.size : Int) > 2000) = true := by simp; omega
    go_enter Tryz.func3, Tryz.ntmps3
    go_wp2_with fail
    refine (awake_any w _ HR.out.max HR.out.fv (Below.refl _ _) HR.out.tab).mono ?_
    rintro e w1 ⟨rfl, hb⟩
    go_wp2_with fail
    exact bodyPost_ret (v := .bool true) (by simp [results, Tryz.results3]) rfl ⟨rfl, hb⟩
  · have hd : decide ((s.size : Int) > 2000) = false := by simp; omega
    have hwn : wordList.contains s.data.toList = Lx.isWord s.data.toList := (isWord_list _).symm
    have HX := Lib.hid (show Lx.isWord s.data.toList = true → Lx.isName s.data.toList = false from fun h => name_word (by rw [hwn]; exact h))
    have HW := Lib.hid hwn
    clear hwn
    generalize ha : Lx.isWord s.data.toList = a at *
    have HA := Lib.hid ha
    clear ha
    generalize hn : Lx.isName s.data.toList = n at *
    have HN := Lib.hid hn
    clear hn
    go_enter Tryz.func3, Tryz.ntmps3
    go_wp2_with fail
    refine (awake_any w _ HR.out.max HR.out.fv (Below.refl _ _) HR.out.tab).mono ?_
    rintro e w1 ⟨rfl, hb1⟩
    have HB1 := Lib.hid hb1
    clear hb1
    obtain ⟨m1, hm1⟩ := HR.out.max_at HB1.out
    have HM1 := Lib.hid hm1
    clear hm1
    go_wp2_with fail
    refine (word_any s m1 w1 (by omega) HM1.out).mono ?_
    rintro e w2 ⟨rfl, rfl⟩
    rw [HA.out]
    go_wp2_with fail
    refine (rword_any s _).mono ?_
    rintro e w3 ⟨rfl, hb3⟩
    rw [HW.out]
    have HB3 := Lib.hid (HB1.out.trans (hb3.mono HB1.out.size))
    clear hb3
    obtain ⟨m3, hm3⟩ := HR.out.max_at HB3.out
    have HM3 := Lib.hid hm3
    clear hm3
    have haa : (a == a) = true := by simp
    have hnn : (n == n) = true := by simp
    go_wp2_with fail
    refine (lname_any s w3 m3 (by omega) HM3.out).mono ?_
    rintro e w4 ⟨rfl, k, rfl⟩
    rw [HN.out]
    go_wp2_with fail
    refine (rname_any s _ (by omega)).mono ?_
    rintro e w5 ⟨rfl, hb5⟩
    rw [HN.out]
    have HB5 := Lib.hid ((HB3.out.trans ((drew_below w3 k).mono HB3.out.size)).trans (hb5.mono (by have := HB3.out.size; simpa using this)))
    clear hb5
    obtain ⟨m5, hm5⟩ := HR.out.max_at HB5.out
    have HM5 := Lib.hid hm5
    clear hm5
    go_wp2_with fail
    refine (word_any s m5 w5 (by omega) HM5.out).mono ?_
    rintro e w6 ⟨rfl, rfl⟩
    rw [HA.out]
    go_wp2_with fail
    · refine (lname_any s _ m5 (by omega) HM5.out).mono ?_
      rintro e w7 ⟨rfl, k7, rfl⟩
      have ht : a = true := by first | assumption | simp_all
      have hn0 : n = false := HX.out ht
      rw [HN.out, hn0]
      go_wp2_with fail
      exact bodyPost_ret (v := .bool true) (by simp [results, Tryz.results3]) rfl ⟨rfl, HB5.out.trans ((drew_below _ k7).mono HB5.out.size)⟩
    · exact bodyPost_ret (v := .bool true) (by simp [results, Tryz.results3]) rfl ⟨rfl, HB5.out⟩
end Go.Proofs.YtcgibcjpkhefpaaGreatDoor

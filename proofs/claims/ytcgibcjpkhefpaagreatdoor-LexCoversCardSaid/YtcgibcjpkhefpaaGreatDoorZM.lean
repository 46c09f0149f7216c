/-
  The three examples of the document, scanned by the program.
  A part of the proof: what the laws ask of the memory that they begin in.
-/
import Derived.Test.YtcgibcjpkhefpaaGreatDoorZA
import Derived.Test.YtcgibcjpkhefpaaGreatDoorZG
import Derived.Test.YtcgibcjpkhefpaaGreatDoorZK
namespace Go.Proofs.YtcgibcjpkhefpaaGreatDoor
open Go.RowKit
theorem pf15 {w0 : World} (hF : FvOk w0) : Pf15 w0 := by
  intro w1 hb
  refine (parse_015 w1 (hF.below hb (Nat.le_refl _))).mono ?_
  rintro e w2 ⟨rfl, m, rfl⟩
  exact ⟨rfl, ((Kf.refl (fun _ _ => False) w1).drewN m).below (Nat.le_refl _) (fun _ _ h => h.elim)⟩
abbrev b1 : ByteArray := ⟨#[97, 10, 43, 61, 49, 46, 53]⟩
abbrev b2 : ByteArray := ⟨#[96, 120, 36, 123, 32, 123, 125, 32, 125, 121, 96]⟩
abbrev b3 : ByteArray := ⟨#[97, 32, 35]⟩
def v1 : List Nat := [0, 1, 2, 4, 7]
def v2 : List Nat := [0, 4, 5, 6, 7, 8, 11]
def v3 : List Nat := [0, 1, 2]
def r1 : List (Nat × List Int) := [(0, []), (1, []), (4, []), (7, [])]
def r2 : List (Nat × List Int) := [(0, []), (4, [0]), (6, [1]), (7, [0]), (11, [])]
def r3 : List (Nat × List Int) := [(0, []), (1, [])]
theorem litOk_none (E : Lx.Env) (s : ByteArray) (vs : List Nat) (w0 : World) (h : (vs.all fun p => !numStart s.data.toList p) = true) : LitOk E s (· ∈ vs) w0 := by
  intro p hp _ hn
  have := List.all_eq_true.1 h p hp
  rw [hn] at this
  cases this
theorem litOk_1 (w0 : World) (hM : MaxOk w0) (hF : FvOk w0) : LitOk Lx.envW b1 (· ∈ v1) w0 := by
  intro p hp hlt hn
  have hp4 : p = 4 := by
    simp only [v1, List.mem_cons, List.not_mem_nil, or_false] at hp
    rcases hp with rfl | rfl | rfl | rfl | rfl
    · exact absurd hn (by decide)
    · exact absurd hn (by decide)
    · exact absurd hn (by decide)
    · rfl
    · exact absurd hn (by decide)
  subst hp4
  have e : Lx.envW.lit (b1.data.toList.drop 4) = some (4609434218613702656, 3) := by decide
  rw [e]
  refine ⟨by decide, by decide, fun w hb => ?_⟩
  have ex : b1.extract 4 b1.size = t15 := by decide +kernel
  rw [ex]
  exact literal_15 w0 w hM hb (pf15 hF)
set_option maxRecDepth 100000 in
theorem scan_b1 (w0 w : World) (hM : MaxOk w0) (hF : FvOk w0) (hG : Below w0.heap.size w0 w) (htab : ∀ w, Below w0.heap.size w0 w → Lib.TabIs Tryz.prog w "strings.asciiSpace" .u8 Lib.asciiSpaceTab) : Calls Tryz.prog 11 #[.string b1] w fun e w' => Below w.heap.size w w' ∧ ∃ v, e = .returned (.tuple #[v, .int .i64 0, .int .i64 0]) ∧ w'.ownsRow w.heap.size 31 7 v 4 (toksC Lx.toks1) := by
  refine (scan_ascii Lx.envW b1 (· ∈ v1) (fun p o => (p, o) ∈ r1) w0 w (by decide) (runOk_of _ _ _ _ (by decide +kernel) (by decide)) (cmOk_of _ _ _ (by decide +kernel) (by decide)) (vSkip_of _ _ _ (by decide +kernel) (by decide +kernel)) (litOk_1 w0 hM hF) hM hG (by decide) htab).mono ?_
  rintro e w' ⟨hb, hP⟩
  rw [show Lx.scan Lx.envW b1.data.toList = .ok Lx.toks1 from Lx.scan1] at hP
  obtain ⟨v, he, ho⟩ := hP
  exact ⟨hb, v, he, ho⟩
set_option maxRecDepth 100000 in
theorem scan_b2 (w0 w : World) (hM : MaxOk w0) (hG : Below w0.heap.size w0 w) (htab : ∀ w, Below w0.heap.size w0 w → Lib.TabIs Tryz.prog w "strings.asciiSpace" .u8 Lib.asciiSpaceTab) : Calls Tryz.prog 11 #[.string b2] w fun e w' => Below w.heap.size w w' ∧ ∃ v, e = .returned (.tuple #[v, .int .i64 0, .int .i64 0]) ∧ w'.ownsRow w.heap.size 31 7 v 5 (toksC Lx.toks2) := by
  refine (scan_ascii Lx.envW b2 (· ∈ v2) (fun p o => (p, o) ∈ r2) w0 w (by decide) (runOk_of _ _ _ _ (by decide +kernel) (by decide)) (cmOk_of _ _ _ (by decide +kernel) (by decide)) (vSkip_of _ _ _ (by decide +kernel) (by decide +kernel)) (litOk_none _ _ _ _ (by decide +kernel)) hM hG (by decide) htab).mono ?_
  rintro e w' ⟨hb, hP⟩
  rw [show Lx.scan Lx.envW b2.data.toList = .ok Lx.toks2 from Lx.scan2] at hP
  obtain ⟨v, he, ho⟩ := hP
  exact ⟨hb, v, he, ho⟩
set_option maxRecDepth 100000 in
theorem scan_b3 (w0 w : World) (hM : MaxOk w0) (hG : Below w0.heap.size w0 w) (htab : ∀ w, Below w0.heap.size w0 w → Lib.TabIs Tryz.prog w "strings.asciiSpace" .u8 Lib.asciiSpaceTab) : Calls Tryz.prog 11 #[.string b3] w fun e w' => Below w.heap.size w w' ∧ e = .returned (.tuple #[.slice none 0 0, .int .i64 2, .int .i64 50]) := by
  refine (scan_ascii Lx.envW b3 (· ∈ v3) (fun p o => (p, o) ∈ r3) w0 w (by decide) (runOk_of _ _ _ _ (by decide +kernel) (by decide)) (cmOk_of _ _ _ (by decide +kernel) (by decide)) (vSkip_of _ _ _ (by decide +kernel) (by decide +kernel)) (litOk_none _ _ _ _ (by decide +kernel)) hM hG (by decide) htab).mono ?_
  rintro e w' ⟨hb, hP⟩
  rw [show Lx.scan Lx.envW b3.data.toList = .error 2 from Lx.scan3] at hP
  exact ⟨hb, hP⟩
/-- A list of tokens in memory, read cell by cell. -/
theorem row_cells {w : World} {B n : Nat} {v : Value} {xs : List Value} (h : w.ownsRow B 31 7 v n xs) (h0 : 0 < n) : ∃ g cap, v = .slice (some ⟨g, 0, none⟩) n cap ∧ n ≤ cap ∧ B ≤ g ∧ g < w.heap.size ∧ ∀ i u, xs[i]? = some u → i < n * 7 → w.cell? ⟨g, i, none⟩ = some u := by
  obtain ⟨g, cap, cur, rfl, hg, hh, hc1, hc2, hc3, hc4⟩ : ∃ g cap cur, v = .slice (some ⟨g, 0, none⟩) n cap ∧ _ := by
    rcases h.2 with ⟨_, hn⟩ | h
    · omega
    · exact h
  refine ⟨g, cap, rfl, hc1, hg, lt_of_heap hh, fun i u hi hlt => ?_⟩
  rw [cellN hh i]
  have h1 : (cur.toList.take (n * 7))[i]? = some u := by rw [hc4]; exact hi
  rw [List.getElem?_take_of_lt (by omega)] at h1
  simpa using h1
set_option maxHeartbeats 4000000 in
set_option maxRecDepth 100000 in
theorem awake_any (w0 w : World) (hM : MaxOk w0) (hF : FvOk w0) (hG : Below w0.heap.size w0 w) (htab : ∀ w, Below w0.heap.size w0 w → Lib.TabIs Tryz.prog w "strings.asciiSpace" .u8 Lib.asciiSpaceTab) :
    Calls Tryz.prog 6 #[] w fun e w' => e = .returned (.bool true) ∧ Below w.heap.size w w' := by
  have HM := Lib.hid hM
  have HF := Lib.hid hF
  have HG := Lib.hid hG
  have HT := Lib.hid htab
  clear hM hF hG htab
  go_enter Tryz.func6, Tryz.ntmps6
  go_wp2_with fail
  refine (scan_b1 w0 _ HM.out HF.out HG.out HT.out).mono ?_
  rintro e w1 ⟨hb1, v, rfl, ho1⟩
  obtain ⟨g, cap, rfl, hc1, hg1, hg2, hcell1⟩ := row_cells ho1 (by decide)
  have HB1 := Lib.hid hb1
  have HC1 := Lib.hid hcell1
  have HG1 := Lib.hid (HG.out.trans (hb1.mono HG.out.size))
  clear ho1 hb1 hcell1
  go_wp2_with fail
  refine (scan_b2 w0 _ HM.out HG1.out HT.out).mono ?_
  rintro e w2 ⟨hb2, v, rfl, ho2⟩
  obtain ⟨g2, cap2, rfl, hc2, hg3, hg4, hcell2⟩ := row_cells ho2 (by decide)
  have HB2 := Lib.hid hb2
  have HC2 := Lib.hid hcell2
  have HG2 := Lib.hid (HG1.out.trans (hb2.mono HG1.out.size))
  clear ho2 hb2 hcell2
  go_wp2_with fail
  refine (scan_b3 w0 _ HM.out HG2.out HT.out).mono ?_
  rintro e w3 ⟨hb3, rfl⟩
  have HB3 := Lib.hid hb3
  clear hb3
  have hz2 := HB2.out.size
  have k1 : w3.cell? ⟨g, 8, none⟩ = some (.string ⟨#[43, 61]⟩) := by
    rw [HB3.out.cell (p := ⟨g, 8, none⟩) (by simp; omega), HB2.out.cell (p := ⟨g, 8, none⟩) (by simp; omega)]
    exact HC1.out 8 _ rfl (by decide)
  have k2 : w3.cell? ⟨g, 13, none⟩ = some (.bool true) := by
    rw [HB3.out.cell (p := ⟨g, 13, none⟩) (by simp; omega), HB2.out.cell (p := ⟨g, 13, none⟩) (by simp; omega)]
    exact HC1.out 13 _ rfl (by decide)
  have k3 : w3.cell? ⟨g, 17, none⟩ = some (.float .f64 4609434218613702656) := by
    rw [HB3.out.cell (p := ⟨g, 17, none⟩) (by simp; omega), HB2.out.cell (p := ⟨g, 17, none⟩) (by simp; omega)]
    exact HC1.out 17 _ rfl (by decide)
  have k4 : w3.cell? ⟨g2, 0, none⟩ = some (.int .i64 7) := by
    rw [HB3.out.cell (p := ⟨g2, 0, none⟩) (by simp; omega)]
    exact HC2.out 0 _ rfl (by decide)
  have k5 : w3.cell? ⟨g2, 21, none⟩ = some (.int .i64 9) := by
    rw [HB3.out.cell (p := ⟨g2, 21, none⟩) (by simp; omega)]
    exact HC2.out 21 _ rfl (by decide)
  go_wp2
  exact bodyPost_ret (v := .bool true) (by simp [results, Tryz.results6]) rfl ⟨rfl, (HB1.out.trans (HB2.out.mono HB1.out.size)).trans (HB3.out.mono (Nat.le_trans HB1.out.size HB2.out.size))⟩
end Go.Proofs.YtcgibcjpkhefpaaGreatDoor
namespace Go.Proofs.YtcgibcjpkhefpaaGreatDoor
open Go.RowKit
/-- What the laws ask of the memory that they begin in. -/
structure Ready (w : World) : Prop where
  max : MaxOk w
  fv : FvOk w
  tab : ∀ w', Below w.heap.size w w' → Lib.TabIs Tryz.prog w' "strings.asciiSpace" .u8 Lib.asciiSpaceTab
theorem Ready.max_at {w0 w : World} (h : Ready w0) (hb : Below w0.heap.size w0 w) : ∃ m, w.cell? ⟨1, 0, none⟩ = some (.int .i64 m) := by
  obtain ⟨h1, m, hm⟩ := h.max
  exact ⟨m, by rw [hb.cell (p := ⟨1, 0, none⟩) h1]; exact hm⟩
theorem drew_below (w : World) (k : Nat) : Below w.heap.size w (w.drewN k) := ((Kf.refl (fun _ _ => False) w).drewN k).below (Nat.le_refl _) (fun _ _ h => h.elim)
end Go.Proofs.YtcgibcjpkhefpaaGreatDoor

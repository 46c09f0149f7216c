/-
  readFloat (167) at any text that begins with "0." and has no underscore.
-/
import Derived.Test.YtcgibcjpkhefpaaGreatDoorZE2
import Derived.Test.YtcgibcjpkhefpaaGreatDoorZK8
import Derived.WalkMore
import Derived.Deep.LoopGhost
import Derived.Deep.CutBlock
import Derived.Deep.DeepCutAuto
namespace Go.Proofs.YtcgibcjpkhefpaaGreatDoor
open Go.RowKit
/-- A text of a decimal number: it begins with "0.", no underscore. -/
structure NumTxt (t : ByteArray) : Prop where
  sz : t.size ≤ 300000
  s2 : 2 < t.size
  b0 : ∀ h : 0 < t.size, t[0]'h = 48
  b1 : ∀ h : 1 < t.size, t[1]'h = 46
  us : ∀ i (h : i < t.size), (t[i]'h).toNat ≠ 95
def RfPost (t : ByteArray) (w : World) (e : Ending) (w' : World) : Prop := (∃ (m : Nat) (p : Int) (tr ok : Bool) (n : Nat), m < 18446744073709551616 ∧ n ≤ t.size ∧ e = .returned (.tuple #[.int .u64 m, .int .i64 p, .bool false, .bool tr, .bool false, .int .i64 n, .bool ok])) ∧ w' = w
theorem low46 (w : World) : Calls Tryz.prog 187 #[.int .u8 46] w fun e w' => e = .returned (.int .u8 46) ∧ w' = w := by
  refine (Tryz.internal_strconv_lower 46 w).mono ?_
  rintro e w' ⟨rfl, rfl⟩
  exact ⟨by rw [show bits .or .u8 46 32 = 46 from by decide +kernel], rfl⟩
set_option maxHeartbeats 16000000 in
set_option maxRecDepth 100000 in
theorem rf_any (t : ByteArray) (w : World) (h : NumTxt t) : Calls Tryz.prog 167 #[.string t] w (RfPost t w) := by
  have hsz := h.sz
  have hs2 := h.s2
  have hp0 : 0 < t.size := by omega
  have hp1 : 1 < t.size := by omega
  have e0 : (t[0]'hp0).toNat = 48 := by rw [h.b0 hp0]; rfl
  have e1 : (t[1]'hp1).toNat = 46 := by rw [h.b1 hp1]; rfl
  have HU := Lib.hid h.us
  clear h
  have b0n : (t.size == 0) = false := beq_eq_false_iff_ne.2 (by omega)
  have hne : ¬ t = ByteArray.empty := by rintro rfl; simp at hp0
  have hne2 : decide (t = ByteArray.empty) = false := by simp [hne]
  have b2 : decide (2 < t.size) = true := by simp; omega
  go_enter Tryz.func167, Tryz.ntmps167
  go_wp2
  go_step3
  go_wp2_with fail
  refine (low46 _).mono ?_
  rintro e w2 ⟨rfl, rfl⟩
  go_wp2_with fail
  go_step3
  go_upto_block 1 with fail
  clear e0 e1 b0n b2 hne hne2
  go_cut [2, 5, 7, 9, 13, 14, 15, 16, 17] (fun m tr i us dot dig nd ndm dp wc => ∃ (M : Nat) (T : Bool) (j : Nat) (b1 b2 : Bool) (N K : Nat) (P : Int), m = .int .u64 M ∧ M < 18446744073709551616 ∧ tr = .bool T ∧ i = .int .i64 j ∧ j ≤ t.size ∧ us = .bool false ∧ dot = .bool b1 ∧ dig = .bool b2 ∧ nd = .int .i64 N ∧ N ≤ j ∧ ndm = .int .i64 K ∧ K ≤ j ∧ dp = .int .i64 P ∧ w2 = wc)
  case first =>
    as_aux_lemma =>
      go_wp2_with fail
      go_loopw [2, 5, 7, 9, 13, 14, 15, 16, 17] (fun m tr i us dot dig nd ndm dp wr => ∃ (M : Nat) (T : Bool) (j : Nat) (b1 b2 : Bool) (N K : Nat) (P : Int), m = .int .u64 M ∧ M < 18446744073709551616 ∧ tr = .bool T ∧ i = .int .i64 j ∧ j ≤ t.size ∧ us = .bool false ∧ dot = .bool b1 ∧ dig = .bool b2 ∧ nd = .int .i64 N ∧ N ≤ j ∧ ndm = .int .i64 K ∧ K ≤ j ∧ dp = .int .i64 P ∧ w2 = wr) (fun _ _ i _ _ _ _ _ _ _ => t.size - (intOf i).toNat)
      case atStart => exact ⟨0, false, 0, false, false, 0, 0, 0, rfl, by omega, rfl, rfl, by omega, rfl, rfl, rfl, rfl, by omega, rfl, by omega, rfl, rfl⟩
      case round =>
        obtain ⟨M, T, j, b1, b2, N, K, P, rfl, hM, rfl, rfl, hj, rfl, rfl, rfl, rfl, hN, rfl, hK, rfl, rfl⟩ := hrel
        have HM := Lib.hid hM
        clear hM
        rcases Nat.lt_or_ge j t.size with hlt | hge
        case' inl =>
          have d1 : decide (j < t.size) = true := by simp; omega
          have h95 := HU.out j hlt
          obtain ⟨v, hv⟩ : ∃ v, (t[j]'hlt).toNat = v := ⟨_, rfl⟩
          rw [hv] at h95
          have hv256 : v < 256 := by rw [← hv]; exact UInt8.toNat_lt _
          have e95 : (v == 95) = false := by simp; omega
          have e95I : ((v : Int) == 95) = false := by simp; omega
          by_cases h46 : v = 46
          case' pos =>
            subst h46
            cases b1
            · go_wp2
              go_roundw
              case rel => exact ⟨M, T, j + 1, true, b2, N, K, N, rfl, HM.out, rfl, congrArg (Value.int .i64) (by omega), by omega, rfl, rfl, rfl, rfl, by omega, rfl, by omega, rfl, by trivial⟩
              case measure => simp [intOf]; omega
            · go_wp2
              go_meet
              case rel => exact ⟨M, T, j, true, b2, N, K, P, rfl, HM.out, rfl, rfl, by omega, rfl, rfl, rfl, rfl, by omega, rfl, by omega, rfl, by trivial⟩
          case' neg =>
            have e46 : (v == 46) = false := by simp; omega
            have e46I : ((v : Int) == 46) = false := by simp; omega
            by_cases hdg : 48 ≤ v ∧ v ≤ 57
            case' pos =>
              have g1 : decide (48 ≤ v) = true := by simp; omega
              have g2 : decide (v ≤ 57) = true := by simp; omega
              have g1I : decide (48 ≤ (v : Int)) = true := by simp; omega
              have g2I : decide ((v : Int) ≤ 57) = true := by simp; omega
              go_wp2
              all_goals
                go_roundw
              all_goals
                first
                | exact ⟨M, _, j + 1, b1, true, N, K, _, rfl, HM.out, rfl, congrArg (Value.int .i64) (by omega), by omega, rfl, rfl, rfl, rfl, by omega, rfl, by omega, rfl, by trivial⟩
                | exact ⟨M, _, j + 1, b1, true, N + 1, K, _, rfl, HM.out, rfl, congrArg (Value.int .i64) (by omega), by omega, rfl, rfl, rfl, congrArg (Value.int .i64) (by omega), by omega, rfl, by omega, rfl, by trivial⟩
                | exact ⟨_, _, j + 1, b1, true, N + 1, K + 1, _, wrapV _, wrapB _, rfl, congrArg (Value.int .i64) (by omega), by omega, rfl, rfl, rfl, congrArg (Value.int .i64) (by omega), by omega, congrArg (Value.int .i64) (by omega), by omega, rfl, by trivial⟩
                | (simp [intOf]; omega)
            case' neg =>
              rcases (show decide (48 ≤ (v : Int)) = false ∨ (decide (48 ≤ (v : Int)) = true ∧ decide ((v : Int) ≤ 57) = false) by
                rcases Nat.lt_or_ge v 48 with h | h
                · left; simp; omega
                · right; refine ⟨by simp; omega, by simp; omega⟩) with g1 | ⟨g1, g2⟩
              · go_wp2
                go_meet
                case rel => exact ⟨M, T, j, b1, b2, N, K, P, rfl, HM.out, rfl, rfl, by omega, rfl, rfl, rfl, rfl, by omega, rfl, by omega, rfl, by trivial⟩
              · go_wp2
                go_meet
                case rel => exact ⟨M, T, j, b1, b2, N, K, P, rfl, HM.out, rfl, rfl, by omega, rfl, rfl, rfl, rfl, by omega, rfl, by omega, rfl, by trivial⟩
        case' inr =>
          have d1 : decide (j < t.size) = false := by simp; omega
          go_wp2
          go_meet
          case rel => exact ⟨M, T, j, b1, b2, N, K, P, rfl, HM.out, rfl, rfl, by omega, rfl, rfl, rfl, rfl, by omega, rfl, by omega, rfl, by trivial⟩
  case rest =>
    as_aux_lemma =>
      obtain ⟨M, T, j, b1, b2, N, K, P, rfl, hM, rfl, rfl, hj, rfl, rfl, rfl, rfl, hN, rfl, hK, rfl, rfl⟩ := hcut
      have HM := Lib.hid hM
      clear hM
      cases b2
      · go_wp2
        all_goals
          try rw [Exit.noGoto_ret]
          first
          | (refine bodyPost_ret (v := .tuple #[.int .u64 M, .int .i64 0, .bool false, .bool T, .bool false, .int .i64 j, .bool true]) ?_ rfl ⟨⟨M, 0, T, true, j, HM.out, by omega, rfl⟩, rfl⟩; simp [results, Tryz.results167]; done)
          | (refine bodyPost_ret (v := .tuple #[.int .u64 M, .int .i64 0, .bool false, .bool T, .bool false, .int .i64 j, .bool false]) ?_ rfl ⟨⟨M, 0, T, false, j, HM.out, by omega, rfl⟩, rfl⟩; simp [results, Tryz.results167]; done)
          | (refine bodyPost_ret (v := .tuple #[.int .u64 M, .int .i64 (wrap64 (P - K)), .bool false, .bool T, .bool false, .int .i64 j, .bool true]) ?_ rfl ⟨⟨M, (wrap64 (P - K)), T, true, j, HM.out, by omega, rfl⟩, rfl⟩; simp [results, Tryz.results167]; done)
          | (refine bodyPost_ret (v := .tuple #[.int .u64 M, .int .i64 (wrap64 (P - K)), .bool false, .bool T, .bool false, .int .i64 j, .bool false]) ?_ rfl ⟨⟨M, (wrap64 (P - K)), T, false, j, HM.out, by omega, rfl⟩, rfl⟩; simp [results, Tryz.results167]; done)
      go_upto_if 142 with fail
      go_cut [17] (fun dp wc => ∃ P : Int, dp = .int .i64 P ∧ w2 = wc)
      case first =>
        as_aux_lemma =>
          cases b1
          · go_wp2
            go_meet
            case rel => exact ⟨_, rfl, by trivial⟩
          · go_wp2
            go_meet
            case rel => exact ⟨_, rfl, by trivial⟩
      case rest =>
        as_aux_lemma =>
          obtain ⟨P, rfl, rfl⟩ := hcut
          rcases Nat.lt_or_ge j t.size with hlt | hge
          · have d1 : decide (j < t.size) = true := by simp; omega
            obtain ⟨v, hv⟩ : ∃ v, (t[j]'hlt).toNat = v := ⟨_, rfl⟩
            go_wp2_with fail
            refine (Tryz.internal_strconv_lower v _).mono ?_
            rintro e w3 ⟨rfl, rfl⟩
            by_cases he : bits .or .u8 (v : Int) 32 = 101
            · have he2 : (bits .or .u8 (v : Int) 32 == 101) = true := by simp [he]
              by_cases hj1 : j + 1 < t.size
              · have d2 : decide (t.size ≤ j + 1) = false := by simp; omega
                have d3 : decide ((t.size : Int) ≤ (j : Int) + 1) = false := by simp; omega
                obtain ⟨v1, hv1⟩ : ∃ v1, (t[j + 1]'hj1).toNat = v1 := ⟨_, rfl⟩
                go_upto_block 4 with fail
                go_cut [7, 19] (fun i g wc => ∃ (q : Nat) (S : Int), i = .int .i64 q ∧ g = .int .i64 S ∧ q ≤ t.size ∧ w3 = wc)
                case first =>
                  as_aux_lemma =>
                    go_wp2
                    all_goals
                      go_meet
                    all_goals
                      first
                      | exact ⟨j + 1, _, congrArg (Value.int .i64) (by omega), rfl, by omega, by trivial⟩
                      | exact ⟨j + 2, _, congrArg (Value.int .i64) (by omega), rfl, by omega, by trivial⟩
                case rest =>
                  as_aux_lemma =>
                    obtain ⟨q, S, rfl, rfl, hq, rfl⟩ := hcut
                    clear d1 hv he he2 d2 d3 hv1
                    by_cases hqt : q < t.size
                    · have d1 : decide (t.size ≤ q) = false := by simp; omega
                      have d1I : decide ((t.size : Int) ≤ (q : Int)) = false := by simp; omega
                      obtain ⟨v2, hv2⟩ : ∃ v2, (t[q]'hqt).toNat = v2 := ⟨_, rfl⟩
                      by_cases hd2 : 48 ≤ v2 ∧ v2 ≤ 57
                      · have g1 : decide ((v2 : Int) < 48) = false := by simp; omega
                        have g2 : decide ((57 : Int) < v2) = false := by simp; omega
                        have g1n : decide (v2 < 48) = false := by simp; omega
                        have g2n : decide (57 < v2) = false := by simp; omega
                        go_upto_block 5 with fail
                        clear d1 d1I hv2 g1 g2 g1n g2n
                        go_cut [7, 9, 20] (fun i us ex wc => ∃ (q : Nat) (E : Int), i = .int .i64 q ∧ us = .bool false ∧ ex = .int .i64 E ∧ q ≤ t.size ∧ w3 = wc)
                        case first =>
                          as_aux_lemma =>
                            go_wp2_with fail
                            go_loopw [7, 9, 20] (fun i us e wr2 => ∃ (q : Nat) (E : Int), i = .int .i64 q ∧ us = .bool false ∧ e = .int .i64 E ∧ q ≤ t.size ∧ w3 = wr2) (fun i _ _ _ => t.size - (intOf i).toNat)
                            case atStart => exact ⟨q, 0, rfl, rfl, rfl, hq, rfl⟩
                            case round =>
                              clear hqt hd2
                              obtain ⟨q, E, rfl, rfl, rfl, hq, rfl⟩ := hrel
                              rcases Nat.lt_or_ge q t.size with hlt3 | hge3
                              · have d1 : decide (q < t.size) = true := by simp; omega
                                have h95 := HU.out q hlt3
                                obtain ⟨v3, hv3⟩ : ∃ v3, (t[q]'hlt3).toNat = v3 := ⟨_, rfl⟩
                                rw [hv3] at h95
                                have e95 : (v3 == 95) = false := by simp; omega
                                have e95I : ((v3 : Int) == 95) = false := by simp; omega
                                go_wp2
                                all_goals
                                  first
                                  | (go_meet
                                     case rel => exact ⟨q, _, rfl, rfl, rfl, by omega, by trivial⟩)
                                  | (go_roundw
                                     case rel => exact ⟨q + 1, _, congrArg (Value.int .i64) (by omega), rfl, rfl, by omega, by trivial⟩
                                     case measure => simp [intOf]; omega)
                              · have d1 : decide (q < t.size) = false := by simp; omega
                                go_wp2
                                go_meet
                                case rel => exact ⟨q, _, rfl, rfl, rfl, by omega, by trivial⟩
                        case rest =>
                          as_aux_lemma =>
                            clear hqt hd2
                            obtain ⟨q, E, rfl, rfl, rfl, hq, rfl⟩ := hcut
                            obtain ⟨P2, hP2⟩ : ∃ P2, wrap64 (P + wrap64 (E * S)) = P2 := ⟨_, rfl⟩
                            go_wp2
                            all_goals
                              try rw [Exit.noGoto_ret]
                              first
                              | (refine bodyPost_ret (v := .tuple #[.int .u64 M, .int .i64 0, .bool false, .bool T, .bool false, .int .i64 q, .bool true]) ?_ rfl ⟨⟨M, 0, T, true, q, HM.out, by omega, rfl⟩, rfl⟩; simp [results, Tryz.results167]; done)
                              | (refine bodyPost_ret (v := .tuple #[.int .u64 M, .int .i64 (wrap64 (P2 - K)), .bool false, .bool T, .bool false, .int .i64 q, .bool true]) ?_ rfl ⟨⟨M, (wrap64 (P2 - K)), T, true, q, HM.out, by omega, rfl⟩, rfl⟩; simp [results, Tryz.results167]; done)
                      · go_wp2
                        all_goals
                          try rw [Exit.noGoto_ret]
                          first
                          | (refine bodyPost_ret (v := .tuple #[.int .u64 M, .int .i64 0, .bool false, .bool T, .bool false, .int .i64 q, .bool true]) ?_ rfl ⟨⟨M, 0, T, true, q, HM.out, by omega, rfl⟩, rfl⟩; simp [results, Tryz.results167]; done)
                          | (refine bodyPost_ret (v := .tuple #[.int .u64 M, .int .i64 0, .bool false, .bool T, .bool false, .int .i64 q, .bool false]) ?_ rfl ⟨⟨M, 0, T, false, q, HM.out, by omega, rfl⟩, rfl⟩; simp [results, Tryz.results167]; done)
                          | (refine bodyPost_ret (v := .tuple #[.int .u64 M, .int .i64 (wrap64 (P - K)), .bool false, .bool T, .bool false, .int .i64 q, .bool true]) ?_ rfl ⟨⟨M, (wrap64 (P - K)), T, true, q, HM.out, by omega, rfl⟩, rfl⟩; simp [results, Tryz.results167]; done)
                          | (refine bodyPost_ret (v := .tuple #[.int .u64 M, .int .i64 (wrap64 (P - K)), .bool false, .bool T, .bool false, .int .i64 q, .bool false]) ?_ rfl ⟨⟨M, (wrap64 (P - K)), T, false, q, HM.out, by omega, rfl⟩, rfl⟩; simp [results, Tryz.results167]; done)
                    · have d1 : decide (t.size ≤ q) = true := by simp; omega
                      have d1I : decide ((t.size : Int) ≤ (q : Int)) = true := by simp; omega
                      go_wp2
                      all_goals
                        try rw [Exit.noGoto_ret]
                        first
                        | (refine bodyPost_ret (v := .tuple #[.int .u64 M, .int .i64 0, .bool false, .bool T, .bool false, .int .i64 q, .bool true]) ?_ rfl ⟨⟨M, 0, T, true, q, HM.out, by omega, rfl⟩, rfl⟩; simp [results, Tryz.results167]; done)
                        | (refine bodyPost_ret (v := .tuple #[.int .u64 M, .int .i64 0, .bool false, .bool T, .bool false, .int .i64 q, .bool false]) ?_ rfl ⟨⟨M, 0, T, false, q, HM.out, by omega, rfl⟩, rfl⟩; simp [results, Tryz.results167]; done)
                        | (refine bodyPost_ret (v := .tuple #[.int .u64 M, .int .i64 (wrap64 (P - K)), .bool false, .bool T, .bool false, .int .i64 q, .bool true]) ?_ rfl ⟨⟨M, (wrap64 (P - K)), T, true, q, HM.out, by omega, rfl⟩, rfl⟩; simp [results, Tryz.results167]; done)
                        | (refine bodyPost_ret (v := .tuple #[.int .u64 M, .int .i64 (wrap64 (P - K)), .bool false, .bool T, .bool false, .int .i64 q, .bool false]) ?_ rfl ⟨⟨M, (wrap64 (P - K)), T, false, q, HM.out, by omega, rfl⟩, rfl⟩; simp [results, Tryz.results167]; done)
              · have d2 : decide (t.size ≤ j + 1) = true := by simp; omega
                have d3 : decide ((t.size : Int) ≤ (j : Int) + 1) = true := by simp; omega
                go_wp2
                all_goals
                  try rw [Exit.noGoto_ret]
                  first
                  | (refine bodyPost_ret (v := .tuple #[.int .u64 M, .int .i64 0, .bool false, .bool T, .bool false, .int .i64 ((j : Int) + 1), .bool true]) ?_ rfl ⟨⟨M, 0, T, true, j + 1, HM.out, by omega, rfl⟩, rfl⟩; simp [results, Tryz.results167]; done)
                  | (refine bodyPost_ret (v := .tuple #[.int .u64 M, .int .i64 0, .bool false, .bool T, .bool false, .int .i64 ((j : Int) + 1), .bool false]) ?_ rfl ⟨⟨M, 0, T, false, j + 1, HM.out, by omega, rfl⟩, rfl⟩; simp [results, Tryz.results167]; done)
                  | (refine bodyPost_ret (v := .tuple #[.int .u64 M, .int .i64 (wrap64 (P - K)), .bool false, .bool T, .bool false, .int .i64 ((j : Int) + 1), .bool true]) ?_ rfl ⟨⟨M, (wrap64 (P - K)), T, true, j + 1, HM.out, by omega, rfl⟩, rfl⟩; simp [results, Tryz.results167]; done)
                  | (refine bodyPost_ret (v := .tuple #[.int .u64 M, .int .i64 (wrap64 (P - K)), .bool false, .bool T, .bool false, .int .i64 ((j : Int) + 1), .bool false]) ?_ rfl ⟨⟨M, (wrap64 (P - K)), T, false, j + 1, HM.out, by omega, rfl⟩, rfl⟩; simp [results, Tryz.results167]; done)
            · have he2 : (bits .or .u8 (v : Int) 32 == 101) = false := by simp [he]
              go_wp2
              all_goals
                try rw [Exit.noGoto_ret]
                first
                | (refine bodyPost_ret (v := .tuple #[.int .u64 M, .int .i64 0, .bool false, .bool T, .bool false, .int .i64 j, .bool true]) ?_ rfl ⟨⟨M, 0, T, true, j, HM.out, by omega, rfl⟩, rfl⟩; simp [results, Tryz.results167]; done)
                | (refine bodyPost_ret (v := .tuple #[.int .u64 M, .int .i64 0, .bool false, .bool T, .bool false, .int .i64 j, .bool false]) ?_ rfl ⟨⟨M, 0, T, false, j, HM.out, by omega, rfl⟩, rfl⟩; simp [results, Tryz.results167]; done)
                | (refine bodyPost_ret (v := .tuple #[.int .u64 M, .int .i64 (wrap64 (P - K)), .bool false, .bool T, .bool false, .int .i64 j, .bool true]) ?_ rfl ⟨⟨M, (wrap64 (P - K)), T, true, j, HM.out, by omega, rfl⟩, rfl⟩; simp [results, Tryz.results167]; done)
                | (refine bodyPost_ret (v := .tuple #[.int .u64 M, .int .i64 (wrap64 (P - K)), .bool false, .bool T, .bool false, .int .i64 j, .bool false]) ?_ rfl ⟨⟨M, (wrap64 (P - K)), T, false, j, HM.out, by omega, rfl⟩, rfl⟩; simp [results, Tryz.results167]; done)
          · have d1 : decide (j < t.size) = false := by simp; omega
            go_wp2
            all_goals
              try rw [Exit.noGoto_ret]
              first
              | (refine bodyPost_ret (v := .tuple #[.int .u64 M, .int .i64 0, .bool false, .bool T, .bool false, .int .i64 j, .bool true]) ?_ rfl ⟨⟨M, 0, T, true, j, HM.out, by omega, rfl⟩, rfl⟩; simp [results, Tryz.results167]; done)
              | (refine bodyPost_ret (v := .tuple #[.int .u64 M, .int .i64 0, .bool false, .bool T, .bool false, .int .i64 j, .bool false]) ?_ rfl ⟨⟨M, 0, T, false, j, HM.out, by omega, rfl⟩, rfl⟩; simp [results, Tryz.results167]; done)
              | (refine bodyPost_ret (v := .tuple #[.int .u64 M, .int .i64 (wrap64 (P - K)), .bool false, .bool T, .bool false, .int .i64 j, .bool true]) ?_ rfl ⟨⟨M, (wrap64 (P - K)), T, true, j, HM.out, by omega, rfl⟩, rfl⟩; simp [results, Tryz.results167]; done)
              | (refine bodyPost_ret (v := .tuple #[.int .u64 M, .int .i64 (wrap64 (P - K)), .bool false, .bool T, .bool false, .int .i64 j, .bool false]) ?_ rfl ⟨⟨M, (wrap64 (P - K)), T, false, j, HM.out, by omega, rfl⟩, rfl⟩; simp [results, Tryz.results167]; done)
end Go.Proofs.YtcgibcjpkhefpaaGreatDoor

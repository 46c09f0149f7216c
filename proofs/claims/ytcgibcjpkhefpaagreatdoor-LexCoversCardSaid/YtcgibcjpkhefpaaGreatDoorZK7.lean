/-
  floatBits (174) of a decimal.
-/
import Derived.Test.YtcgibcjpkhefpaaGreatDoorZD
import Derived.Test.YtcgibcjpkhefpaaGreatDoorZI
import Derived.WalkMore
namespace Go
/-- As Q; by a goto to label 0 or label 1: what stands behind the label, without another goto. -/
def Exit.jump2 (P : Program) (r0 r1 : Code) (Q : Exit → Act → World → Prop) : Exit → Act → World → Prop
  | .goto l, a, w => (l = 0 ∧ r0.wp P (Exit.noGoto Q) a w) ∨ (l = 1 ∧ r1.wp P (Exit.noGoto Q) a w)
  | e, a, w => Q e a w
theorem wp_scope2 {P : Program} {a : Act} {w : World} {Q : Exit → Act → World → Prop} {c r0 r1 : Code} (h0 : findLabel c 0 = some r0) (h1 : findLabel c 1 = some r1) (h : c.wp P (Exit.jump2 P r0 r1 Q) a w) : (Code.scope c).wp P Q a w := by
  intro b k cs
  have g0 : gotoIn 0 (.inScope c :: k) = some (.code r0 :: .inScope c :: k) := by simp [gotoIn, h0]
  have g1 : gotoIn 1 (.inScope c :: k) = some (.code r1 :: .inScope c :: k) := by simp [gotoIn, h1]
  have key : ∀ (r : Code) a w, r.wp P (Exit.noGoto Q) a w → ∃ e a' w', Q e a' w' ∧ Arrives P (lone (b.at a (.code r :: .inScope c :: k)) cs w) b k cs e a' w' := by
    intro r a w hr
    obtain ⟨e, a₁, w₁, hq, harr⟩ := hr b (.inScope c :: k) cs
    cases e with
    | normal => exact ⟨.normal, a₁, w₁, hq, Steps.trans harr (.one step_inScope)⟩
    | exit id => exact ⟨.exit id, a₁, w₁, hq, fun k' hk => harr k' (by simp [exitTo, hk])⟩
    | goto l => exact hq.elim
    | ret => exact ⟨_, a₁, w₁, hq, harr⟩
    | panic ch => exact ⟨_, a₁, w₁, hq, harr⟩
    | outgrown => exact ⟨_, a₁, w₁, hq, harr⟩
  obtain ⟨e, a₁, w₁, hq, harr⟩ := h b (.inScope c :: k) cs
  cases e with
  | normal => exact ⟨.normal, a₁, w₁, hq, .head step_scope (Steps.trans harr (.one step_inScope))⟩
  | exit id => exact ⟨.exit id, a₁, w₁, hq, fun k' hk => .head step_scope (harr k' (by simp [exitTo, hk]))⟩
  | goto l =>
    rcases hq with ⟨rfl, hr⟩ | ⟨rfl, hr⟩
    · obtain ⟨e₂, a₂, w₂, hq₂, harr₂⟩ := key _ a₁ w₁ hr
      exact ⟨e₂, a₂, w₂, hq₂, .of_steps (.head step_scope (harr _ g0)) harr₂⟩
    · obtain ⟨e₂, a₂, w₂, hq₂, harr₂⟩ := key _ a₁ w₁ hr
      exact ⟨e₂, a₂, w₂, hq₂, .of_steps (.head step_scope (harr _ g1)) harr₂⟩
  | ret => exact ⟨_, a₁, w₁, hq, .of_steps (.one step_scope) harr⟩
  | panic ch => exact ⟨_, a₁, w₁, hq, .of_steps (.one step_scope) harr⟩
  | outgrown => exact ⟨_, a₁, w₁, hq, .of_steps (.one step_scope) harr⟩
end Go
namespace Go.Proofs.YtcgibcjpkhefpaaGreatDoor
open Go.RowKit
/-- The laid numbers of float64info; of powtab, in block g. -/
structure FI (w : World) : Prop where
  a : w.cell? ⟨11, 0, none⟩ = some (.int .u64 52)
  b : w.cell? ⟨11, 1, none⟩ = some (.int .u64 11)
  c : w.cell? ⟨11, 2, none⟩ = some (.int .i64 (-1023))
structure PT (g o c : Nat) (w : World) : Prop where
  v : w.cell? ⟨15, 0, none⟩ = some (.slice (some ⟨g, o, none⟩) 9 c)
  a : ∀ i, i < 9 → ∃ n : Nat, 1 ≤ n ∧ n ≤ 27 ∧ w.cell? ⟨g, o + i, none⟩ = some (.int .i64 n)
/-- Some bits and a bool. -/
def BitsPost (D : Nat) (w : World) (e : Ending) (w' : World) : Prop := (∃ (n : Int) (b : Bool), e = .returned (.tuple #[.int .u64 n, .bool b])) ∧ Kf (So D) w w'
section
variable {D d0 g o c g2 o2 c2 : Nat} {x : Nat → Nat} {nd : Nat} {dp : Int} {ng tr : Bool} {w : World}
theorem FI.kf {w' : World} (h : FI w) (hk : Kf (So D) w w') (hD : 18 < D) : FI w' :=
  ⟨hk.cell h.a (fun _ e => by have e : (11 : Nat) = D := e; omega), hk.cell h.b (fun _ e => by have e : (11 : Nat) = D := e; omega), hk.cell h.c (fun _ e => by have e : (11 : Nat) = D := e; omega)⟩
theorem PT.kf {w' : World} (h : PT g2 o2 c2 w) (hk : Kf (So D) w w') (hD : 18 < D) (hg : g2 ≠ D) : PT g2 o2 c2 w' :=
  ⟨hk.cell h.v (fun _ e => by have e : (15 : Nat) = D := e; omega), fun i hi => by
    obtain ⟨n, h1, h2, h3⟩ := h.a i hi
    exact ⟨n, h1, h2, hk.cell h3 (fun _ e => hg e)⟩⟩
theorem LC.kf {w' : World} (h : LC g o c w) (hk : Kf (So D) w w') (hD : 18 < D) (hg : g ≠ D) : LC g o c w' :=
  ⟨hk.cell h.v (fun _ e => by have e : (18 : Nat) = D := e; omega), fun k hk2 => hk.cell (h.a k hk2) (fun _ e => hg e), fun k hk2 => hk.cell (h.b k hk2) (fun _ e => hg e)⟩
/-- The decimal's point and first digit, off the memory. -/
def muOf (D : Nat) (w : World) : Int := (match w.cell? ⟨D, 801, none⟩ with | some (.int _ n) => 10 * n | _ => 0) + (match w.cell? ⟨D, 0, none⟩ with | some (.int _ n) => n | _ => 0)
theorem DOk.drewN (h : DOk D d0 dp x nd ng tr w) (n : Nat) : DOk D d0 dp x nd ng tr (w.drewN n) := ⟨h.dc.drewN n, h.n1, h.dig, h.byt, h.x0, h.d1⟩
theorem DOk.mu (h : DOk D d0 dp x nd ng tr w) : muOf D w = 10 * dp + (48 + d0) := by
  have h1 := h.dc.c1
  have h2 := h.dc.byte (i := 0) (by omega)
  rw [h.x0] at h2
  simp [muOf, h1, h2]
set_option maxHeartbeats 4000000 in
set_option maxRecDepth 100000 in
theorem fbits_zero (w : World) (h : Dc D x 0 dp false tr w) (hF : FI w) (_hD : 18 < D) :
    Calls Tryz.prog 174 #[.pointer (some ⟨D, 0, none⟩), .pointer (some ⟨11, 0, none⟩)] w (BitsPost D w) := by
  have c0 := h.c0
  have c2 := h.c2
  have a0 := hF.a
  have a1 := hF.b
  have a2 := hF.c
  go_enter Tryz.func174, Tryz.ntmps174
  go_wp2
  refine wp_scope2 rfl rfl ?_
  generalize hQQ : Exit.jump2 _ _ _ _ = QQ
  go_wp2
  refine wp_goto ?_
  show QQ _ _ _
  rw [← hQQ]
  refine Or.inl ⟨rfl, ?_⟩
  clear hQQ
  go_wp2
  go_quiet (fail)
  go_wp2
  rw [Exit.noGoto_ret]
  exact bodyPost_ret (v := .tuple #[.int .u64 _, .bool _]) (by simp [results, Tryz.results174]; exact ⟨rfl, rfl⟩) rfl ⟨⟨_, _, rfl⟩, (Kf.refl _ _).drewN _⟩
set_option maxHeartbeats 4000000 in
set_option maxRecDepth 100000 in
theorem fbits_over (w : World) (hn : 1 ≤ nd) (h : Dc D x nd dp false tr w) (hdp : 310 < dp) (hF : FI w) (_hD : 18 < D) :
    Calls Tryz.prog 174 #[.pointer (some ⟨D, 0, none⟩), .pointer (some ⟨11, 0, none⟩)] w (BitsPost D w) := by
  have c0 := h.c0
  have c1 := h.c1
  have c2 := h.c2
  have a0 := hF.a
  have a1 := hF.b
  have a2 := hF.c
  have b0 : ((nd : Int) == 0) = false := by simp; omega
  have b1 : decide (310 < dp) = true := by simp; omega
  go_enter Tryz.func174, Tryz.ntmps174
  go_wp2
  refine wp_scope2 rfl rfl ?_
  generalize hQQ : Exit.jump2 _ _ _ _ = QQ
  go_wp2
  refine wp_goto ?_
  show QQ _ _ _
  rw [← hQQ]
  refine Or.inr ⟨rfl, ?_⟩
  clear hQQ
  go_wp2
  go_quiet (fail)
  go_wp2
  go_step3
  go_wp2
  go_quiet (fail)
  go_wp2
  rw [Exit.noGoto_ret]
  exact bodyPost_ret (v := .tuple #[.int .u64 _, .bool _]) (by simp [results, Tryz.results174]; exact ⟨rfl, rfl⟩) rfl ⟨⟨_, _, rfl⟩, (Kf.refl _ _).drewN _⟩
set_option maxHeartbeats 4000000 in
set_option maxRecDepth 100000 in
theorem fbits_under (w : World) (hn : 1 ≤ nd) (h : Dc D x nd dp false tr w) (hdp : dp < -330) (hF : FI w) (_hD : 18 < D) :
    Calls Tryz.prog 174 #[.pointer (some ⟨D, 0, none⟩), .pointer (some ⟨11, 0, none⟩)] w (BitsPost D w) := by
  have c0 := h.c0
  have c1 := h.c1
  have c2 := h.c2
  have a0 := hF.a
  have a1 := hF.b
  have a2 := hF.c
  have b0 : ((nd : Int) == 0) = false := by simp; omega
  have b1 : decide (310 < dp) = false := by simp; omega
  have b2 : decide (dp < -330) = true := by simp; omega
  go_enter Tryz.func174, Tryz.ntmps174
  go_wp2
  refine wp_scope2 rfl rfl ?_
  generalize hQQ : Exit.jump2 _ _ _ _ = QQ
  go_wp2
  refine wp_goto ?_
  show QQ _ _ _
  rw [← hQQ]
  refine Or.inl ⟨rfl, ?_⟩
  clear hQQ
  go_wp2
  go_quiet (fail)
  go_wp2
  rw [Exit.noGoto_ret]
  exact bodyPost_ret (v := .tuple #[.int .u64 _, .bool _]) (by simp [results, Tryz.results174]; exact ⟨rfl, rfl⟩) rfl ⟨⟨_, _, rfl⟩, (Kf.refl _ _).drewN _⟩
set_option maxHeartbeats 16000000 in
set_option maxRecDepth 100000 in
theorem fbits_main (w : World) (h : DOk D d0 dp x nd false tr w) (hdp : -330 ≤ dp ∧ dp ≤ 310) (hF : FI w) (hP : PT g2 o2 c2 w) (hL : LC g o c w) (hD : 18 < D) (hg : g ≠ D) (hg2 : g2 ≠ D) :
    Calls Tryz.prog 174 #[.pointer (some ⟨D, 0, none⟩), .pointer (some ⟨11, 0, none⟩)] w (BitsPost D w) := by
  have c0 := h.dc.c0
  have c1 := h.dc.c1
  have hn1 := h.n1
  have b0 : ((nd : Int) == 0) = false := by simp; omega
  have b1 : decide (310 < dp) = false := by simp; omega
  have b2 : decide (dp < -330) = false := by simp; omega
  have HS := Lib.hid h
  have HF := Lib.hid hF
  have HP := Lib.hid hP
  have HL := Lib.hid hL
  have h9 := h.d9
  have h1 := h.d1
  clear h hF hP hL
  go_enter Tryz.func174, Tryz.ntmps174
  go_wp2
  refine wp_scope2 rfl rfl ?_
  generalize hQQ : Exit.jump2 _ _ _ _ = QQ
  go_wp2
  go_loopw [6] (fun s wr => ∃ (E : Int) (dp1 : Int) (d1 : Nat) (x1 : Nat → Nat) (nd1 : Nat) (tr1 : Bool), s = .int .i64 E ∧ 0 ≤ E ∧ E ≤ 27 * (10 * dp + d0 - (10 * dp1 + d1)) ∧ DOk D d1 dp1 x1 nd1 false tr1 wr ∧ -900 ≤ dp1 ∧ dp1 ≤ 310 ∧ Kf (So D) w wr) (fun _ wr => (muOf D wr + 100000).toNat)
  case atStart => exact ⟨0, dp, d0, x, nd, tr, rfl, by omega, by omega, HS.out, by omega, by omega, Kf.refl _ _⟩
  case round =>
    obtain ⟨E, dp1, d1, x1, nd1, tr1, rfl, hE1, hE2, hDD, hdp1, hdp2, hK⟩ := hrel
    have HDD := Lib.hid hDD
    have HK := Lib.hid hK
    have c1 := hDD.dc.c1
    have h19 := hDD.d9
    have h11 := hDD.d1
    have p1 := (HP.out.kf hK hD hg2).v
    have HPT := Lib.hid (HP.out.kf hK hD hg2)
    clear hDD hK
    by_cases hpos : 0 < dp1
    · have b3 : decide (0 < dp1) = true := by simp; omega
      by_cases h9 : 9 ≤ dp1
      · have b4 : decide (9 ≤ dp1) = true := by simp; omega
        go_wp2
        go_quiet (fail)
        go_wp2_with fail
        refine (shift_right _ 27 (HDD.out.drewN _) (by omega) (by omega) (by omega)).mono ?_
        rintro e w1 ⟨rfl, hK2, dp2, d2, x2, nd2, tr2, hD2, hb, hl⟩
        have h29 := hD2.d9
        have hmu := hD2.mu
        have hmu0 := HDD.out.mu
        go_wp2
        go_roundw
        case rel => exact ⟨E + 27, dp2, d2, x2, nd2, tr2, rfl, by omega, by omega, hD2, by omega, by omega, (HK.out.drewN _).trans hK2⟩
        case measure => rw [hmu, hmu0]; omega
      · have b4 : decide (9 ≤ dp1) = false := by simp; omega
        obtain ⟨i, rfl⟩ : ∃ i : Nat, dp1 = i := ⟨dp1.toNat, by omega⟩
        obtain ⟨n, hn1, hn2, hcell⟩ := HPT.out.a i (by omega)
        go_wp2
        go_quiet (fail)
        go_wp2
        go_quiet (fail)
        go_wp2_with fail
        refine (shift_right _ n (HDD.out.drewN _) (by omega) (by omega) (by omega)).mono ?_
        rintro e w1 ⟨rfl, hK2, dp2, d2, x2, nd2, tr2, hD2, hb, hl⟩
        have h29 := hD2.d9
        have hmu := hD2.mu
        have hmu0 := HDD.out.mu
        go_wp2
        go_roundw
        case rel => exact ⟨E + n, dp2, d2, x2, nd2, tr2, rfl, by omega, by omega, hD2, by omega, by omega, (HK.out.drewN _).trans hK2⟩
        case measure => rw [hmu, hmu0]; omega
    · have b3 : decide (0 < dp1) = false := by simp; omega
      go_wp2
      go_loopw [6] (fun s wv => ∃ (E : Int) (dp1 : Int) (d1 : Nat) (x1 : Nat → Nat) (nd1 : Nat) (tr1 : Bool), s = .int .i64 E ∧ E ≤ 400000 ∧ -27 * (10 * dp1 + d1 + 9000) ≤ E ∧ DOk D d1 dp1 x1 nd1 false tr1 wv ∧ -900 ≤ dp1 ∧ dp1 ≤ 60 ∧ Kf (So D) w wv) (fun _ wv => (100000 - muOf D wv).toNat)
      case atStart => exact ⟨E, dp1, d1, x1, nd1, tr1, rfl, by omega, by omega, HDD.out, by omega, by omega, HK.out⟩
      case round =>
        clear b3 c1 p1 h19 h11
        obtain ⟨E, dp1, d1, x1, nd1, tr1, rfl, hE1, hE2, hDD, hdp1, hdp2, hK⟩ := hrel
        have HDD := Lib.hid hDD
        have HK := Lib.hid hK
        have c1 := hDD.dc.c1
        have cb := hDD.dc.byte (i := 0) (by omega)
        rw [hDD.x0] at cb
        have h19 := hDD.d9
        have h11 := hDD.d1
        have p1 := (HP.out.kf hK hD hg2).v
        have HPT := Lib.hid (HP.out.kf hK hD hg2)
        clear hDD hK
        have LCK := Lib.hid (fun m => HL.out.kf (HK.out.drewN m) hD hg)
        by_cases hA : dp1 ≤ -9
        · have b5 : decide (dp1 < 0) = true := by simp; omega
          have b6 : decide (9 ≤ -dp1) = true := by simp; omega
          go_wp2
          go_quiet (fail)
          go_wp2_with fail
          refine (shift_left _ 27 (HDD.out.drewN _) (LCK.out _) hg (by omega) (by omega) (by omega) (by omega)).mono ?_
          rintro e w1 ⟨rfl, hK2, delta, d2, x2, nd2, tr2, hD2, hb, hl⟩
          have h29 := hD2.d9
          have hmu := hD2.mu
          have hmu0 := HDD.out.mu
          go_wp2
          go_roundw
          case rel => exact ⟨E - 27, dp1 + delta, d2, x2, nd2, tr2, rfl, by omega, by omega, hD2, by omega, by omega, (HK.out.drewN _).trans hK2⟩
          case measure => rw [hmu, hmu0]; omega
        by_cases hB : dp1 < 0
        · have b5 : decide (dp1 < 0) = true := by simp; omega
          have b6 : decide (9 ≤ -dp1) = false := by simp; omega
          obtain ⟨i, hi⟩ : ∃ i : Nat, -dp1 = i := ⟨(-dp1).toNat, by omega⟩
          obtain ⟨n, hn1, hn2, hcell⟩ := HPT.out.a i (by omega)
          go_wp2
          go_quiet (fail)
          go_wp2
          go_quiet (fail)
          go_wp2_with fail
          refine (shift_left _ n (HDD.out.drewN _) (LCK.out _) hg (by omega) (by omega) (by omega) (by omega)).mono ?_
          rintro e w1 ⟨rfl, hK2, delta, d2, x2, nd2, tr2, hD2, hb, hl⟩
          have h29 := hD2.d9
          have hmu := hD2.mu
          have hmu0 := HDD.out.mu
          go_wp2
          go_roundw
          case rel => exact ⟨E - n, dp1 + delta, d2, x2, nd2, tr2, rfl, by omega, by omega, hD2, by omega, by omega, (HK.out.drewN _).trans hK2⟩
          case measure => rw [hmu, hmu0]; omega
        by_cases hC : dp1 = 0 ∧ d1 < 5
        · obtain ⟨rfl, hC⟩ := hC
          have b7 : decide (48 + d1 < 53) = true := by simp; omega
          obtain ⟨n, hn1, hn2, hcell⟩ := HPT.out.a 0 (by omega)
          rw [Nat.add_zero] at hcell
          go_wp2
          go_quiet (fail)
          go_wp2
          go_quiet (fail)
          go_wp2_with fail
          refine (shift_left _ n (HDD.out.drewN _) (LCK.out _) hg (by omega) (by omega) (by omega) (by omega)).mono ?_
          rintro e w1 ⟨rfl, hK2, delta, d2, x2, nd2, tr2, hD2, hb, hl⟩
          have h29 := hD2.d9
          have hmu := hD2.mu
          have hmu0 := HDD.out.mu
          go_wp2
          go_roundw
          case rel => exact ⟨E - n, 0 + delta, d2, x2, nd2, tr2, rfl, by omega, by omega, hD2, by omega, by omega, (HK.out.drewN _).trans hK2⟩
          case measure => rw [hmu, hmu0]; omega
        have a0 := (HF.out.kf HK.out hD).a
        have a1 := (HF.out.kf HK.out hD).b
        have a2 := (HF.out.kf HK.out hD).c
        have b5 : decide (dp1 < 0) = false := by simp; omega
        rcases (show dp1 = 0 ∧ 5 ≤ d1 ∨ 0 < dp1 by omega) with hE | hE
        case' inl =>
          obtain ⟨rfl, hE⟩ := hE
          have b7 : decide (48 + d1 < 53) = false := by simp; omega
        case' inr =>
          have b7 : (dp1 == 0) = false := by simp; omega
        all_goals
          by_cases hlow : E - 1 < -1022
          · have b8 : decide (E - 1 < -1022) = true := by simp; omega
            obtain ⟨n, hn⟩ : ∃ n : Nat, -1022 - (E - 1) = n := ⟨(-1022 - (E - 1)).toNat, by omega⟩
            go_wp2_with fail
            refine (shift_right _ n HDD.out (by omega) (by omega) (by omega)).mono ?_
            rintro e w1 ⟨rfl, hK2, dp2, d2, x2, nd2, tr2, hD2, hb, hl⟩
            have HD2 := Lib.hid hD2
            have HK2 := Lib.hid (HK.out.trans hK2)
            have a0' := (HF.out.kf HK2.out hD).a
            have a1' := (HF.out.kf HK2.out hD).b
            have a2' := (HF.out.kf HK2.out hD).c
            clear hD2 hK2 a0 a1 a2 c1 cb p1
            go_wp2
            go_quiet (fail)
            go_wp2_with fail
            refine (shift_left _ 53 (HD2.out.drewN _) (HL.out.kf (HK2.out.drewN _) hD hg) hg (by omega) (by omega) (by omega) (by omega)).mono ?_
            rintro e w3 ⟨rfl, hK3, delta3, d3, x3, nd3, tr3, hD3, hb3, hl3⟩
            have HD3 := Lib.hid hD3
            have HK3 := Lib.hid ((HK2.out.drewN _).trans hK3)
            have a0z := (HF.out.kf HK3.out hD).a
            have a1z := (HF.out.kf HK3.out hD).b
            have a2z := (HF.out.kf HK3.out hD).c
            have c2z := hD3.dc.c2
            clear hD3 hK3
            go_wp2_with fail
            refine (rint_any _ HD3.out.dc (by omega)).mono ?_
            rintro e w4 ⟨⟨m, hm, rfl⟩, rfl⟩
            go_wp2
            all_goals
              try go_quiet (fail)
            all_goals
              try go_wp2
            all_goals
              refine wp_goto ?_
              show QQ _ _ _
              rw [← hQQ]
              first
              | (refine Or.inl ⟨rfl, ?_⟩; clear hQQ; go_wp2; go_quiet (fail); go_wp2; rw [Exit.noGoto_ret]; exact bodyPost_ret (v := .tuple #[.int .u64 _, .bool _]) (by simp [results, Tryz.results174]; exact ⟨rfl, rfl⟩) rfl ⟨⟨_, _, rfl⟩, (by first | exact HK3.out | exact HK3.out.drewN _)⟩)
              | (refine Or.inr ⟨rfl, ?_⟩; clear hQQ; go_wp2; go_quiet (fail); go_wp2; go_step3; go_wp2; go_quiet (fail); go_wp2; rw [Exit.noGoto_ret]; exact bodyPost_ret (v := .tuple #[.int .u64 _, .bool _]) (by simp [results, Tryz.results174]; exact ⟨rfl, rfl⟩) rfl ⟨⟨_, _, rfl⟩, (by first | exact HK3.out | exact HK3.out.drewN _)⟩)
          · have b8 : decide (E - 1 < -1022) = false := by simp; omega
            by_cases hov : 2047 ≤ E - 1 - -1023
            · have b9 : decide (2047 ≤ E - 1 - -1023) = true := by simp; omega
              have c2z := HDD.out.dc.c2
              go_wp2_with fail
              go_quiet (fail)
              go_wp2
              refine wp_goto ?_
              show QQ _ _ _
              rw [← hQQ]
              first
              | (refine Or.inl ⟨rfl, ?_⟩; clear hQQ; go_wp2; go_quiet (fail); go_wp2; rw [Exit.noGoto_ret]; exact bodyPost_ret (v := .tuple #[.int .u64 _, .bool _]) (by simp [results, Tryz.results174]; exact ⟨rfl, rfl⟩) rfl ⟨⟨_, _, rfl⟩, (by first | exact HK.out | exact HK.out.drewN _)⟩)
              | (refine Or.inr ⟨rfl, ?_⟩; clear hQQ; go_wp2; go_quiet (fail); go_wp2; go_step3; go_wp2; go_quiet (fail); go_wp2; rw [Exit.noGoto_ret]; exact bodyPost_ret (v := .tuple #[.int .u64 _, .bool _]) (by simp [results, Tryz.results174]; exact ⟨rfl, rfl⟩) rfl ⟨⟨_, _, rfl⟩, (by first | exact HK.out | exact HK.out.drewN _)⟩)
            · have b9 : decide (2047 ≤ E - 1 - -1023) = false := by simp; omega
              go_wp2_with fail
              go_quiet (fail)
              go_wp2_with fail
              refine (shift_left _ 53 (HDD.out.drewN _) (HL.out.kf (HK.out.drewN _) hD hg) hg (by omega) (by omega) (by omega) (by omega)).mono ?_
              rintro e w3 ⟨rfl, hK3, delta3, d3, x3, nd3, tr3, hD3, hb3, hl3⟩
              have HD3 := Lib.hid hD3
              have HK3 := Lib.hid ((HK.out.drewN _).trans hK3)
              have a0z := (HF.out.kf HK3.out hD).a
              have a1z := (HF.out.kf HK3.out hD).b
              have a2z := (HF.out.kf HK3.out hD).c
              have c2z := hD3.dc.c2
              clear hD3 hK3
              go_wp2_with fail
              refine (rint_any _ HD3.out.dc (by omega)).mono ?_
              rintro e w4 ⟨⟨m, hm, rfl⟩, rfl⟩
              go_wp2
              all_goals
                try go_quiet (fail)
              all_goals
                try go_wp2
              all_goals
                refine wp_goto ?_
                show QQ _ _ _
                rw [← hQQ]
                first
                | (refine Or.inl ⟨rfl, ?_⟩; clear hQQ; go_wp2; go_quiet (fail); go_wp2; rw [Exit.noGoto_ret]; exact bodyPost_ret (v := .tuple #[.int .u64 _, .bool _]) (by simp [results, Tryz.results174]; exact ⟨rfl, rfl⟩) rfl ⟨⟨_, _, rfl⟩, (by first | exact HK3.out | exact HK3.out.drewN _)⟩)
                | (refine Or.inr ⟨rfl, ?_⟩; clear hQQ; go_wp2; go_quiet (fail); go_wp2; go_step3; go_wp2; go_quiet (fail); go_wp2; rw [Exit.noGoto_ret]; exact bodyPost_ret (v := .tuple #[.int .u64 _, .bool _]) (by simp [results, Tryz.results174]; exact ⟨rfl, rfl⟩) rfl ⟨⟨_, _, rfl⟩, (by first | exact HK3.out | exact HK3.out.drewN _)⟩)
end
end Go.Proofs.YtcgibcjpkhefpaaGreatDoor

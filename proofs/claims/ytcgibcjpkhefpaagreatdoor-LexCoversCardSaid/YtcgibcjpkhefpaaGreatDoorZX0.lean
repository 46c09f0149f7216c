/-
  strings.IndexRune (136) in the text of the ends of lines, whatever the code point: some number.
-/
import Derived.Test.YtcgibcjpkhefpaaGreatDoorZA
import Derived.Test.YtcgibcjpkhefpaaGreatDoorZI
import Derived.WalkMore
import Derived.Lib.RuneCount
import Derived.Lib.IndexLaws
import Derived.Deep.CutBlock
import Derived.Deep.DeepCutAuto
namespace Go
/-- As Q; by a goto to label l: what stands behind the label, without another goto. -/
def Exit.fwd (P : Program) (l : Nat) (r : Code) (Q : Exit → Act → World → Prop) : Exit → Act → World → Prop
  | .goto l', a, w => l' = l ∧ r.wp P (Exit.noGoto Q) a w
  | e, a, w => Q e a w
theorem wp_scope_fwd {P : Program} {a : Act} {w : World} {Q : Exit → Act → World → Prop} {c r : Code} (l : Nat) (h0 : findLabel c l = some r) (h : c.wp P (Exit.fwd P l r Q) a w) : (Code.scope c).wp P Q a w := by
  intro b k cs
  have g0 : gotoIn l (.inScope c :: k) = some (.code r :: .inScope c :: k) := by simp [gotoIn, h0]
  have key : ∀ a w, r.wp P (Exit.noGoto Q) a w → ∃ e a' w', Q e a' w' ∧ Arrives P (lone (b.at a (.code r :: .inScope c :: k)) cs w) b k cs e a' w' := by
    intro a w hr
    obtain ⟨e, a₁, w₁, hq, harr⟩ := hr b (.inScope c :: k) cs
    cases e with
    | normal => exact ⟨.normal, a₁, w₁, hq, Steps.trans harr (.one step_inScope)⟩
    | exit id => exact ⟨.exit id, a₁, w₁, hq, fun k' hk => harr k' (by simp [exitTo, hk])⟩
    | goto l => exact hq.elim
    | ret => exact ⟨_, a₁, w₁, hq, harr⟩
    | panic ch => exact ⟨_, a₁, w₁, hq, harr⟩
    | outgrown => exact ⟨_, a₁, w₁, hq, harr⟩
  obtain ⟨e, a₁, w₁, hq, harr⟩ := h b (.inScope c :: k) cs
  cases e with
  | normal => exact ⟨.normal, a₁, w₁, hq, .head step_scope (Steps.trans harr (.one step_inScope))⟩
  | exit id => exact ⟨.exit id, a₁, w₁, hq, fun k' hk => .head step_scope (harr k' (by simp [exitTo, hk]))⟩
  | goto l' =>
    obtain ⟨rfl, hr⟩ := hq
    obtain ⟨e₂, a₂, w₂, hq₂, harr₂⟩ := key a₁ w₁ hr
    exact ⟨e₂, a₂, w₂, hq₂, .of_steps (.head step_scope (harr _ g0)) harr₂⟩
  | ret => exact ⟨_, a₁, w₁, hq, .of_steps (.one step_scope) harr⟩
  | panic ch => exact ⟨_, a₁, w₁, hq, .of_steps (.one step_scope) harr⟩
  | outgrown => exact ⟨_, a₁, w₁, hq, .of_steps (.one step_scope) harr⟩
end Go
namespace Go.Lx
def nlb : List UInt8 := [10, 13, 226, 128, 168, 226, 128, 169]
/-- How often a byte stands among the first i. -/
def cnt (c : UInt8) (i : Nat) : Nat := (nlb.take i).count c
theorem cnt_le2 (c : UInt8) (i : Nat) : cnt c i ≤ 2 :=
  Nat.le_trans ((List.take_sublist i nlb).count_le c) (u8_allG (P := fun c => nlb.count c ≤ 2) (by decide +kernel) c)
theorem cnt_succ {c : UInt8} {i : Nat} (h : nlb[i]? = some c) : cnt c (i + 1) = cnt c i + 1 := by
  unfold cnt
  rw [List.take_add_one, h, List.count_append]
  simp
theorem cnt_mono (c : UInt8) {i j : Nat} (h : i ≤ j) : cnt c i ≤ cnt c j := by
  have := (List.take_sublist_take_left (l := nlb) h).count_le c
  exact this
end Go.Lx
namespace Go.Proofs.YtcgibcjpkhefpaaGreatDoor
open Go.RowKit
/-- Some number. -/
def IdxPost (w : World) (e : Ending) (w' : World) : Prop := (∃ n : Int, e = .returned (.int .i64 n)) ∧ Below w.heap.size w w'
theorem enc_size (r : Int) : 1 ≤ (Utf8.encode r).size ∧ (Utf8.encode r).size ≤ 4 := by
  unfold Utf8.encode
  generalize (if Utf8.valid r then r.toNat else Utf8.runeError) = c
  dsimp only
  split
  · exact ⟨by simp [ByteArray.size], by simp [ByteArray.size]⟩
  split
  · exact ⟨by simp [ByteArray.size], by simp [ByteArray.size]⟩
  split
  · exact ⟨by simp [ByteArray.size], by simp [ByteArray.size]⟩
  · exact ⟨by simp [ByteArray.size], by simp [ByteArray.size]⟩
set_option maxHeartbeats 8000000 in
set_option maxRecDepth 100000 in
theorem indexRune_nl (s : ByteArray) (hs : s.data.toList = Lx.nlb) (r : Int) (h0 : 0 ≤ r) (h1 : r ≤ 1114111) (w : World) :
    Calls Tryz.prog 136 #[.string s, .int .i32 r] w (IdxPost w) := by
  by_cases h128 : r < 128
  · refine (Tryz.strings_IndexRune_ascii s r w h0 h128).mono ?_
    rintro e w' ⟨rfl, rfl⟩
    exact ⟨⟨_, rfl⟩, Below.refl _ _⟩
  have hlen : s.size = 8 := by
    have : s.data.toList.length = s.size := by simp
    rw [← this, hs]; rfl
  have d0 : decide (0 ≤ r) = true := by simp; omega
  have d1 : decide (r < 128) = false := by simp; omega
  by_cases hbad : r = 65533
  · subst hbad
    clear d0 d1
    go_enter Tryz.func136, Tryz.ntmps136
    go_wp2
    have hit0 : (w.iter s 0).heap[w.heap.size]? = some (.stringIter s 0) := World.iter_heap w s 0
    go_loopw [] (fun wr => ∃ (q : Nat), wr.heap[w.heap.size]? = some (.stringIter s q) ∧ Below w.heap.size w wr) (fun wr => s.size - wr.iterPos w.heap.size)
    case atStart => exact ⟨0, hit0, (Below.refl _ _).alloc (Nat.le_refl _) _⟩
    case round =>
      obtain ⟨q, hit, hB⟩ := hrel
      have HMS := Lib.hid (show wr.iterPos w.heap.size = q by simp only [World.iterPos, hit])
      by_cases hlt : q < s.size
      · have hnx : ∀ ty, (Instr.next (.pointer (some ⟨w.heap.size, 0, none⟩)) true ty).run Tryz.prog wr = _ := fun ty => Lib.run_next_any_at wr w.heap.size s q ty hit hlt
        have hdp := Lib.decode_width_pos s q hlt
        obtain ⟨c, hc⟩ : ∃ c, (Utf8.decode s q).1 = c := ⟨_, rfl⟩
        obtain ⟨d, hd⟩ : ∃ d, (Utf8.decode s q).2 = d := ⟨_, rfl⟩
        rw [hc, hd] at hnx
        rw [hd] at hdp
        have HI := Lib.hid (Lib.iterAt_heap wr w.heap.size s q (q + d) hit)
        have HBN := Lib.hid (((Kf.of_below (fun _ _ => False) hB).iterNew (Nat.le_refl _) s (q + d)).below (Nat.le_refl _) (fun _ _ h => h.elim))
        clear hit hB hc hd
        generalize wr.iterAt w.heap.size s (q + d) = W2 at *
        go_wp2_with fail
        · go_ret
          exact ⟨⟨_, rfl⟩, HBN.out⟩
        · go_roundw
          case rel => exact ⟨_, HI.out, HBN.out⟩
          case measure =>
            rw [HMS.out]
            simp only [World.iterPos, HI.out]
            omega
      · have hnx : ∀ ty, (Instr.next (.pointer (some ⟨w.heap.size, 0, none⟩)) true ty).run Tryz.prog wr = _ := fun ty => Lib.run_next_end_at wr w.heap.size s q ty hit hlt
        go_wp2
        go_ret
        exact ⟨⟨_, rfl⟩, hB⟩
  have e1 : (r == 65533) = false := by simp; omega
  go_enter Tryz.func136, Tryz.ntmps136
  go_wp2_with fail
  refine (Tryz.utf8_ValidRune r _).mono ?_
  rintro e w1 ⟨rfl, rfl⟩
  cases hv : Lib.validRune r with
  | false =>
    go_wp2
    go_ret
    exact ⟨⟨_, rfl⟩, Below.refl _ _⟩
  | true =>
    obtain ⟨U, hU⟩ : ∃ U, Utf8.encode r = U := ⟨_, rfl⟩
    have hUs := enc_size r
    rw [hU] at hUs
    obtain ⟨L, hL⟩ : ∃ L, U.size = L + 1 := ⟨U.size - 1, by omega⟩
    have hE : (Utf8.encode r).size = L + 1 := by rw [hU]; exact hL
    have hL3 : L ≤ 3 := by omega
    have hLU : L < U.size := by omega
    obtain ⟨c, hc⟩ : ∃ c, U[L]'hLU = c := ⟨_, rfl⟩
    have at? : ∀ i (h : i < s.size), Lx.nlb[i]? = some (s[i]'h) := fun i h => by
      rw [← hs, List.getElem?_eq_getElem (by simpa using h)]; simp; rfl
    have HAT := Lib.hid at?
    clear at? hs hUs
    go_wp2
    refine wp_scope_straight ?_
    go_wp2_with fail
    clear hU hE
    go_loopw [9, 10] (fun x y wr => ∃ i f : Nat, x = .int .i64 i ∧ y = .int .i64 f ∧ L ≤ i ∧ i ≤ 8 ∧ f ≤ Lx.cnt c i ∧ ∃ k, wr = w1.drewN k) (fun x _ _ => 8 - (intOf x).toNat)
    case atStart => exact ⟨L, 0, rfl, rfl, by omega, by omega, by omega, 0, rfl⟩
    case round =>
      obtain ⟨i, f, rfl, rfl, hi, hi8, hf, k, rfl⟩ := hrel
      by_cases hlt : i < 8
      · have hls : i < s.size := by omega
        obtain ⟨a, ha⟩ : ∃ a, s[i]'hls = a := ⟨_, rfl⟩
        have HA := Lib.hid (show Lx.nlb[i]? = some a by rw [← ha]; exact HAT.out i hls)
        go_wp2
        refine wp_scope_fwd 0 rfl ?_
        generalize hQQ : Exit.fwd _ _ _ _ = QQ
        go_wp2
        go_quiet (fail)
        go_upto_if 33 with fail
        go_cut [9] (fun x wc => ∃ i2 k2 : Nat, x = .int .i64 i2 ∧ i ≤ i2 ∧ i2 < 8 ∧ Lx.nlb[i2]? = some c ∧ wc = w1.drewN k2)
        case first =>
          by_cases hac : a = c
          · subst hac
            go_wp2
            go_meet
            case rel => exact ⟨i, _, rfl, Nat.le_refl _, hlt, HA.out, World.drewN_drewN _ _ _⟩
          · have hn : ((a.toNat : Int) != c.toNat) = true := by
              simp only [bne_iff_ne, ne_eq, Int.natCast_inj]
              exact fun h => hac (UInt8.toNat_inj.1 h)
            have hw : IntKind.i64.wrap ((i : Int) + 1) = (i : Int) + 1 := IntWalk.i64_in _ (by omega)
            have ht : ((i : Int) + 1).toNat = i + 1 := by omega
            have hb0 : 0 ≤ (i : Int) + 1 := by omega
            have hb8 : (i : Int) + 1 ≤ 8 := by omega
            have hb9 : (i : Int) + 1 ≤ (s.size : Int) := by omega
            have hLI : (L : Int) < (U.size : Int) := by omega
            have hLI2 : (L : Int) < (L : Int) + 1 := by omega
            go_wp2
            go_quiet ((go_at_call 117; go_loud (exact (Tryz.strings_IndexByte _ _ _).mono (fun e w'' h => ⟨h.1, _, h.2⟩))))
            have hcc : ((c.toNat : Nat) : Int).toNat.toUInt8 = c := by simp
            rw [hcc]
            obtain ⟨O, hO⟩ : ∃ O, Lib.indexByte (s.extract (i + 1) 8).data.toList c = O := ⟨_, rfl⟩
            have HO := Lib.hid hO
            rw [hO]
            have hO1 : -1 ≤ O := by rw [← hO]; exact Lib.indexByte_ge _ _
            clear hO hcc
            by_cases hOn : O < 0
            · have d : decide (O < 0) = true := by simp; omega
              go_wp2
              show QQ _ _ _
              rw [← hQQ]
              show bodyPost Tryz.prog Tryz.f136 (IdxPost w1) Exit.ret _ _
              go_ret
              exact ⟨⟨_, rfl⟩, ((Kf.refl (fun _ _ => False) w1).drewN _).below (Nat.le_refl _) (fun _ _ h => h.elim)⟩
            · obtain ⟨o, rfl⟩ : ∃ o : Nat, O = o := ⟨O.toNat, by omega⟩
              have d : decide ((o : Int) < 0) = false := by simp
              have hget := (Lib.indexByte_some HO.out).1
              rw [ByteArray.data_extract, Array.toList_extract, List.extract_eq_take_drop] at hget
              have ho7 : o < 8 - (i + 1) := by
                have := (List.getElem?_eq_some_iff.1 hget).1
                simp at this; omega
              rw [List.getElem?_take_of_lt ho7, List.getElem?_drop] at hget
              have HG := Lib.hid (show Lx.nlb[i + 1 + o]? = some c by
                rw [HAT.out (i + 1 + o) (by omega), ← hget, List.getElem?_eq_getElem (by simp; omega)]; simp; rfl)
              clear hget
              go_wp2
              go_meet
              case rel => exact ⟨i + 1 + o, _, congrArg (Value.int .i64) (by omega), by omega, by omega, HG.out, rfl⟩
        case rest =>
          obtain ⟨i2, k2, rfl, hi2, hi28, hc2, rfl⟩ := hcut
          have HC2 := Lib.hid hc2
          have hf2 : f ≤ Lx.cnt c i2 := Nat.le_trans hf (Lx.cnt_mono c hi2)
          have hf3 : f + 1 ≤ Lx.cnt c (i2 + 1) := by rw [Lx.cnt_succ hc2]; omega
          have hf4 := Lx.cnt_le2 c (i2 + 1)
          clear hc2 HA ha
          go_wp2_with fail
          go_loopw [12] (fun x wr => ∃ j k3 : Nat, x = .int .i64 j ∧ 1 ≤ j ∧ j ≤ L + 1 ∧ wr = w1.drewN k3) (fun x _ => 8 - (intOf x).toNat)
          case atStart => exact ⟨1, k2, rfl, by omega, by omega, rfl⟩
          case round =>
            obtain ⟨j, k3, rfl, hj1, hj2, rfl⟩ := hrel
            by_cases hjl : j < L + 1
            · have d : decide (j < L + 1) = true := by simp; omega
              obtain ⟨ia, hia⟩ : ∃ ia : Nat, i2 = ia + j := ⟨i2 - j, by omega⟩
              obtain ⟨lb, hlb⟩ : ∃ lb : Nat, L = lb + j := ⟨L - j, by omega⟩
              have x1 : (i2 : Int) - (j : Int) = (ia : Int) := by omega
              have x2 : (L : Int) - (j : Int) = (lb : Int) := by omega
              have x3 : IntKind.i64.wrap ((i2 : Int) - (j : Int)) = (ia : Int) := by rw [x1]; exact IntWalk.i64_in _ (by omega)
              have x4 : IntKind.i64.wrap ((L : Int) - (j : Int)) = (lb : Int) := by rw [x2]; exact IntWalk.i64_in _ (by omega)
              have x5 : ia < s.size := by omega
              have x6 : lb < U.size := by omega
              have x7 : (ia : Int) < 8 := by omega
              have x8 : (lb : Int) < (L : Int) + 1 := by omega
              clear hia hlb
              obtain ⟨A, hA⟩ : ∃ A, s[ia]'x5 = A := ⟨_, rfl⟩
              obtain ⟨B, hB⟩ : ∃ B, U[lb]'x6 = B := ⟨_, rfl⟩
              go_wp2
              go_quiet (fail)
              go_wp2
              · refine wp_goto ?_
                show QQ _ _ _
                rw [← hQQ]
                refine ⟨rfl, ?_⟩
                clear hQQ
                go_wp2_with fail
                refine (Tryz.bytealg_Cutover _ (by omega) (by omega) _).mono ?_
                rintro e w2 ⟨rfl, rfl⟩
                obtain ⟨Z, hZ, hZ2⟩ : ∃ Z : Int, ((i2 : Int) + 1 + 16) / 8 = Z ∧ 2 ≤ Z := ⟨_, rfl, by omega⟩
                rw [hZ]
                have d3 : decide (Z < (f : Int) + 1) = false := by simp; omega
                go_wp2_with fail
                go_roundw
                case rel =>
                  repeat apply Exists.intro
                  refine ⟨?_, rfl⟩
                  exact ⟨i2 + 1, f + 1, congrArg (Value.int .i64) (by omega), congrArg (Value.int .i64) (by omega), by omega, by omega, hf3, _, rfl⟩
                case measure => simp [intOf]; omega
              · exact ⟨⟨j + 1, _, congrArg (Value.int .i64) (by omega), by omega, by omega, rfl⟩, by simp [intOf]; omega⟩
            · have d : decide (j < L + 1) = false := by simp; omega
              go_wp2
              show QQ _ _ _
              rw [← hQQ]
              show bodyPost Tryz.prog Tryz.f136 (IdxPost w1) Exit.ret _ _
              go_ret
              exact ⟨⟨_, rfl⟩, ((Kf.refl (fun _ _ => False) w1).drewN _).below (Nat.le_refl _) (fun _ _ h => h.elim)⟩
      · obtain rfl : i = 8 := by omega
        go_wp2
        rw [Exit.noGoto_ret]
        go_ret
        exact ⟨⟨_, rfl⟩, ((Kf.refl (fun _ _ => False) w1).drewN k).below (Nat.le_refl _) (fun _ _ h => h.elim)⟩
end Go.Proofs.YtcgibcjpkhefpaaGreatDoor

/-
  strings.IndexAny (116), strings.ContainsAny (97) of the ends of lines in any text: some number, some Boolean.
  The scanner's comment (77) at any text.
-/
import Derived.Test.YtcgibcjpkhefpaaGreatDoorZC1
import Derived.Test.YtcgibcjpkhefpaaGreatDoorZN
import Derived.Test.YtcgibcjpkhefpaaGreatDoorZX0
import Derived.Lib.AsciiSet
import Derived.Lib.TrimU
import Derived.Deep.WholeRow
import Derived.Laws.ResultCell
import Derived.Deep.RegionWith
import Derived.Deep.DeepMust
namespace Go.Proofs.YtcgibcjpkhefpaaGreatDoor
open Go.RowKit
def nlS : ByteArray := ⟨#[10, 13, 226, 128, 168, 226, 128, 169]⟩
theorem size172 : (Tryz.prog.info? 172).map (·.size) = some 256 := by kernel_rfl
set_option maxRecDepth 100000 in
theorem zero172 : Tryz.zeroCells172.size = 256 ∧ Tryz.zeroCells172.all (·.oneCell') = true := ⟨by kernel_rfl, by kernel_rfl⟩
theorem one_set {C : Array Value} (h : C.all (·.oneCell') = true) (i : Nat) (b : Bool) : (C.setIfInBounds i (.bool b)).all (·.oneCell') = true := by
  rw [Array.all_eq_true] at h ⊢
  intro j hj
  rw [Array.getElem_setIfInBounds (by simpa using hj)]
  split
  · rfl
  · exact h j (by simpa using hj)
theorem alloc_set (w : World) (C : Array Value) (t : TypeId) (i : Nat) (u : Value) : (w.alloc (.cells C t)).setCell ⟨w.heap.size, i, none⟩ u = w.alloc (.cells (C.setIfInBounds i u) t) := by
  exact World.setCell_alloc_new ..
set_option maxHeartbeats 4000000 in
set_option maxRecDepth 1000000 in
theorem makeSet_nl (N : ByteArray) (hN : N.data.toList = Lx.nlb) (w : World) : Calls Tryz.prog 138 #[.string N] w fun e w' => (∃ A : Array Value, A.size = 256 ∧ A.all (·.oneCell') = true ∧ e = .returned (.tuple #[.agg A, .bool false])) ∧ Below w.heap.size w w' := by
  have hlen : N.size = 8 := by
    have : N.data.toList.length = N.size := by simp
    rw [← this, hN]; rfl
  have at? : ∀ i (h : i < N.size), Lx.nlb[i]? = some (N[i]'h) := fun i h => by
    rw [← hN, List.getElem?_eq_getElem (by simpa using h)]; simp; rfl
  have y0 : N[0]'(by omega) = 10 := by have := at? 0 (by omega); simpa [Lx.nlb] using this.symm
  have y1 : N[1]'(by omega) = 13 := by have := at? 1 (by omega); simpa [Lx.nlb] using this.symm
  have y2 : N[2]'(by omega) = 226 := by have := at? 2 (by omega); simpa [Lx.nlb] using this.symm
  clear at? hN
  have z2 := zero172
  go_enter Tryz.func138, Tryz.ntmps138
  go_wp2
  go_loopw [4] (fun x wr => ∃ (i : Nat) (C : Array Value), x = .int .i64 i ∧ i ≤ 2 ∧ C.size = 256 ∧ C.all (·.oneCell') = true ∧ wr = w.alloc (.cells C 172)) (fun x _ => 2 - (intOf x).toNat)
  case atStart => exact ⟨0, _, rfl, by omega, z2.1, z2.2, rfl⟩
  case round =>
    obtain ⟨i, C, rfl, hi, hC, hC1, rfl⟩ := hrel
    have HC1 := Lib.hid hC1
    have HC := Lib.hid hC
    have HR := Lib.hid (heap_alloc_new w (.cells C 172))
    clear z2 hC hC1
    have hcase : i = 0 ∨ i = 1 ∨ i = 2 := by omega
    rcases hcase with rfl | rfl | rfl
    · have hcl : (w.alloc (.cells C 172)).cell? ⟨w.heap.size, 10, none⟩ = some (C[10]'(by have := HC.out; omega)) := by
        rw [cellN HR.out 10]; simp [HC.out]
      have hfz : (w.alloc (.cells C 172)).frozen? ⟨w.heap.size, 10, none⟩ = false := frozen_of_row _ _ _ _ _ HR.out
      have HAS := Lib.hid (alloc_set w C 172 10 (.bool true))
      generalize w.alloc (.cells C 172) = W at *
      go_wp2
      refine ⟨⟨1, C.setIfInBounds 10 (.bool true), rfl, by omega, by rw [Array.size_setIfInBounds]; exact HC.out, one_set HC1.out 10 true, HAS.out⟩, by simp [intOf]⟩
    · have hcl : (w.alloc (.cells C 172)).cell? ⟨w.heap.size, 13, none⟩ = some (C[13]'(by have := HC.out; omega)) := by
        rw [cellN HR.out 13]; simp [HC.out]
      have hfz : (w.alloc (.cells C 172)).frozen? ⟨w.heap.size, 13, none⟩ = false := frozen_of_row _ _ _ _ _ HR.out
      have HAS := Lib.hid (alloc_set w C 172 13 (.bool true))
      generalize w.alloc (.cells C 172) = W at *
      go_wp2
      refine ⟨⟨2, C.setIfInBounds 13 (.bool true), rfl, by omega, by rw [Array.size_setIfInBounds]; exact HC.out, one_set HC1.out 13 true, HAS.out⟩, by simp [intOf]⟩
    · go_wp2_with (first | (refine wpList_load_row rfl 172 (.tmp 2) rfl w.heap.size rfl 172 C (0, 0) (.array 256 4) HR.out Tryz.underlying172 rfl (by rw [HC.out]; exact size172) ?_) | (refine wpList_store_row rfl 172 (.tmp 2) (.tmp 17) rfl w.heap.size C rfl rfl 172 C HR.out (by rw [HC.out]; exact size172) rfl HC1.out ?_))
      go_wp2
      refine bodyPost_ret (v := .tuple #[.agg C, .bool false]) ?_ rfl ⟨⟨C, HC.out, HC1.out, rfl⟩, ?_⟩
      · rw [World.setRow_alloc_new, results_cell_tmp rfl]
        have hld := run_loadVar_new (P := Tryz.prog) w 172 C 256 4 Tryz.underlying172 (by rw [HC.out]; exact size172)
        simp [asAddr, Result.andThen, hld]
      · rw [World.setRow_alloc_new]
        exact (Below.refl _ _).alloc (Nat.le_refl _) _
theorem rune_top (s : ByteArray) (q : Nat) : (Utf8.decode s q).1 ≤ 1114111 := Lib.rune_le s q
set_option maxHeartbeats 8000000 in
set_option maxRecDepth 1000000 in
theorem indexAny_nl (s N : ByteArray) (hN : N.data.toList = Lx.nlb) (w : World) (_hs : s.size ≤ 262144) : Calls Tryz.prog 116 #[.string s, .string N] w (IdxPost w) := by
  have hlen : N.size = 8 := by
    have : N.data.toList.length = N.size := by simp
    rw [← this, hN]; rfl
  have hne := toList_emp (t := N) (by omega)
  have hne2 : decide (N = ByteArray.empty) = false := by
    simp only [decide_eq_false_iff_not]
    rintro rfl
    simp at hlen
  have HMS := Lib.hid (fun w => makeSet_nl N hN w)
  have HIR := Lib.hid (fun r h0 h1 w => indexRune_nl N hN r h0 h1 w)
  have z2 := zero172
  clear hN
  go_enter Tryz.func116, Tryz.ntmps116
  go_wp2_with fail
  refine (Tryz.strings_shouldUseASCIISet _ _).mono ?_
  rintro e w1 ⟨rfl, rfl⟩
  go_upto_if 26 with fail
  go_cut [] (fun wc => ∃ W, W = wc ∧ Below w1.heap.size w1 W)
  case first =>
    by_cases h8 : (8 : Int) < s.size
    · have d : decide ((8 : Int) < s.size) = true := by simp; omega
      rw [d]
      go_wp2_with fail
      refine (HMS.out _).mono ?_
      rintro e w2 ⟨⟨A, hA, hA1, rfl⟩, hb⟩
      have HA := Lib.hid hA
      have HA1 := Lib.hid hA1
      have HB := Lib.hid hb
      have HR := Lib.hid (heap_alloc_new w2 (.cells Tryz.zeroCells172 172))
      have HZ := Lib.hid z2
      clear hA hA1 hb z2
      go_wp2_with (refine wpList_store_row rfl 172 (.tmp 6) (.tmp 30) rfl w2.heap.size A rfl rfl 172 _ HR.out (by rw [HA.out]; exact size172) (by rw [HA.out]; exact HZ.out.1) HA1.out ?_)
      go_meet
      case rel =>
        rw [World.setRow_alloc_new]
        exact ⟨_, rfl, HB.out.alloc HB.out.size _⟩
    · have d : decide ((8 : Int) < s.size) = false := by simp; omega
      rw [d]
      go_wp2
      go_meet
      case rel => exact ⟨_, rfl, Below.refl _ _⟩
  case rest =>
    obtain ⟨W, rfl, hcut⟩ := hcut
    have HB := Lib.hid hcut
    clear hcut z2
    go_wp2
    have hit0 : (W.iter s 0).heap[W.heap.size]? = some (.stringIter s 0) := World.iter_heap W s 0
    go_loopw [] (fun wr => ∃ (q : Nat), wr.heap[W.heap.size]? = some (.stringIter s q) ∧ Below w1.heap.size w1 wr) (fun wr => s.size - wr.iterPos W.heap.size)
    case atStart => exact ⟨0, hit0, HB.out.alloc HB.out.size _⟩
    case round =>
      obtain ⟨q, hit, hB⟩ := hrel
      have HMT := Lib.hid (show wr.iterPos W.heap.size = q by simp only [World.iterPos, hit])
      by_cases hlt : q < s.size
      · have hnx : ∀ ty, (Instr.next (.pointer (some ⟨W.heap.size, 0, none⟩)) true ty).run Tryz.prog wr = _ := fun ty => Lib.run_next_any_at wr W.heap.size s q ty hit hlt
        have hdp := Lib.decode_width_pos s q hlt
        have hru := rune_top s q
        obtain ⟨c, hc⟩ : ∃ c, (Utf8.decode s q).1 = c := ⟨_, rfl⟩
        obtain ⟨d, hd⟩ : ∃ d, (Utf8.decode s q).2 = d := ⟨_, rfl⟩
        rw [hc, hd] at hnx
        rw [hd] at hdp
        rw [hc] at hru
        have HI := Lib.hid (Lib.iterAt_heap wr W.heap.size s q (q + d) hit)
        have HBN := Lib.hid (((Kf.of_below (fun k _ => w1.heap.size ≤ k) hB).iterNew HB.out.size s (q + d)).below (Nat.le_refl _) (fun _ _ h => h))
        clear hit hB hc hd
        generalize wr.iterAt W.heap.size s (q + d) = W2 at *
        go_wp2_with fail
        refine (HIR.out (c : Int) (by omega) (by omega) _).mono ?_
        rintro e w3 ⟨⟨n, rfl⟩, hb3⟩
        have HI3 := Lib.hid ((hb3.block _ (lt_of_heap HI.out)).trans HI.out)
        have HB3 := Lib.hid (HBN.out.trans (hb3.mono HBN.out.size))
        clear hb3
        go_wp2_with fail
        · go_ret
          exact ⟨⟨_, rfl⟩, HB3.out⟩
        · go_roundw
          case rel => exact ⟨_, HI3.out, HB3.out⟩
          case measure =>
            rw [HMT.out]
            simp only [World.iterPos, HI3.out]
            omega
      · have hnx : ∀ ty, (Instr.next (.pointer (some ⟨W.heap.size, 0, none⟩)) true ty).run Tryz.prog wr = _ := fun ty => Lib.run_next_end_at wr W.heap.size s q ty hit hlt
        go_wp2
        go_ret
        exact ⟨⟨_, rfl⟩, hB⟩
set_option maxHeartbeats 1000000 in
theorem containsAny_nl (s N : ByteArray) (hN : N.data.toList = Lx.nlb) (w : World) (hs : s.size ≤ 262144) : Calls Tryz.prog 97 #[.string s, .string N] w fun e w' => (∃ b, e = .returned (.bool b)) ∧ Below w.heap.size w w' := by
  have HI := Lib.hid (indexAny_nl s N hN w hs)
  clear hN
  go_enter Tryz.func97, Tryz.ntmps97
  go_wp2_with fail
  refine HI.out.mono ?_
  rintro e w1 ⟨⟨n, rfl⟩, hb⟩
  go_wp2
  go_ret
  exact ⟨⟨_, rfl⟩, hb⟩
end Go.Proofs.YtcgibcjpkhefpaaGreatDoor
namespace Go.Lx
theorem nl_none {l : List UInt8} {p : Nat} (h : nl l p = none) : ∀ t ∈ nls, pre t l p = false := by
  simp only [nl, firstOf, Option.map_eq_none_iff, List.find?_eq_none] at h
  intro t ht
  have := h t ht
  simpa using this
theorem nl_some {l : List UInt8} {p q : Nat} (h : nl l p = some q) : ∃ t ∈ nls, pre t l p = true := by
  simp only [nl, firstOf, Option.map_eq_some_iff] at h
  obtain ⟨t, h1, rfl⟩ := h
  exact ⟨t, List.mem_of_find?_eq_some h1, by simpa using List.find?_some h1⟩
end Go.Lx
namespace Go.Proofs.YtcgibcjpkhefpaaGreatDoor
open Go.RowKit
section
variable {b g : Nat} {s : ByteArray} {lv ov : Value} {p : Nat} {ln : Bool} {opn : List Int} {l : List UInt8}
set_option maxHeartbeats 2000000 in
set_option maxRecDepth 100000 in
/-- ended (96): some Boolean. -/
theorem ended_any (w : World) (q : Nat) (hs : s.size ≤ 262144) (hq : q ≤ p) (hp : p ≤ s.size) (h : Scn b s lv p ln ov opn w) :
    Calls Tryz.prog 96 #[.pointer (some ⟨b, 0, none⟩), .int .i64 q] w fun e w' => (∃ B, e = .returned (.bool B)) ∧ Below w.heap.size w w' := by
  have h0 := h.c0
  have h1 := h.c1
  have hq1 : (q : Int) ≤ p := by omega
  have hp1 : (p : Int) ≤ s.size := by omega
  have HC := Lib.hid (fun w => containsAny_nl (s.extract q p) ⟨#[10, 13, 226, 128, 168, 226, 128, 169]⟩ rfl w (by simp [ByteArray.size_extract]; omega))
  go_enter Tryz.func96, Tryz.ntmps96
  go_wp2
  go_region_with (first | (go_at_call 97; go_must (refine (HC.out _).mono ?_); go_must (rintro e w2 ⟨⟨B, rfl⟩, hb⟩)))
  all_goals
    go_wp2
    go_ret
    exact ⟨⟨_, rfl⟩, (((Kf.refl (fun _ _ => False) w).drewN _).below (Nat.le_refl _) (fun _ _ h => h.elim)).trans (hb.mono (Nat.le_refl _))⟩
set_option maxHeartbeats 8000000 in
set_option maxRecDepth 100000 in
theorem comment_line (w : World) (hs : s.size ≤ 262144) (hp : p ≤ s.size) (h : Scn b s lv p ln ov opn w) (hpre : Lx.pre [47, 47] s.data.toList p = true) :
    Calls Tryz.prog 77 #[.pointer (some ⟨b, 0, none⟩)] w (CmCov b s lv p ln ov opn w) := by
  have hlen : s.data.toList.length = s.size := by simp
  have c1 := h.c1
  have hp2 : p + 2 ≤ s.size := by have := Lx.pre_le hpre (by omega); simp at this; omega
  have HS := Lib.hid h
  have HP := Lib.hid hpre
  clear h hpre
  go_enter Tryz.func77, Tryz.ntmps77
  go_wp2_with fail
  refine (has_any _ _ (by omega) hp HS.out).mono ?_
  rintro e w1 ⟨rfl, k, rfl⟩
  rw [show Lx.pre (⟨#[47, 47]⟩ : ByteArray).data.toList s.data.toList p = true from HP.out]
  go_wp2_with fail
  go_loopw [] (fun wr => ∃ q : Nat, p ≤ q ∧ q ≤ s.size ∧ Scn b s lv q ln ov opn wr ∧ Kf (So b) w wr ∧ (∀ i, p ≤ i → i < q → ∀ t ∈ Lx.nls, Lx.pre t s.data.toList i = false)) (fun wr => s.size - posQ b wr)
  case atStart => exact ⟨p, Nat.le_refl _, hp, HS.out.drewN k, (Kf.refl _ _).drewN k, fun i h1 h2 => by omega⟩
  case round =>
    obtain ⟨q, hpq, hqs, hS, hK, hno⟩ := hrel
    have hpos := posQ_scn hS
    have HP1 := Lib.hid hpos
    have HS1 := Lib.hid hS
    have HK1 := Lib.hid hK
    have HNO := Lib.hid hno
    have c0 := hS.c0
    have c1 := hS.c1
    clear hpos hS hK hno
    go_upto_region 4 with fail
    go_cut [26] (fun x wc => ∃ (B : Bool) (q2 : Nat), x = .bool B ∧ Scn b s lv q2 ln ov opn wc ∧ Kf (So b) w wc ∧ ((B = true ∧ q2 = q ∧ q < s.size ∧ Lx.nl s.data.toList q = none) ∨ (B = false ∧ ((q2 = q ∧ q = s.size) ∨ Lx.nl s.data.toList q = some q2))))
    case first =>
      by_cases hlt : q < s.size
      · have d : decide ((q : Int) < s.size) = true := by simp; omega
        have dN : decide (q < s.size) = true := by simp; omega
        cases hn : Lx.nl s.data.toList q with
        | some q1 =>
          have HN := Lib.hid hn
          clear hn
          go_wp2
          go_region_with (first | (go_at_call 75; go_must (refine (newline_any _ (by omega) hqs (HS1.out.drewN _)).mono ?_); go_must (rintro e w2 ⟨rfl, hK2, hS2⟩); go_must (rw [HN.out])))
          all_goals
            have HK2 := Lib.hid ((HK1.out.drewN _).trans hK2)
            rw [HN.out] at hS2
            have HS2 := Lib.hid hS2
            clear hK2 hS2
            go_wp2
            go_meet
            case rel => exact ⟨false, q1, rfl, HS2.out, HK2.out, Or.inr ⟨rfl, Or.inr HN.out⟩⟩
        | none =>
          have HN := Lib.hid hn
          clear hn
          go_wp2
          go_region_with (first | (go_at_call 75; go_must (refine (newline_any _ (by omega) hqs (HS1.out.drewN _)).mono ?_); go_must (rintro e w2 ⟨rfl, hK2, hS2⟩); go_must (rw [HN.out])))
          all_goals
            have HK2 := Lib.hid ((HK1.out.drewN _).trans hK2)
            rw [HN.out] at hS2
            have HS2 := Lib.hid hS2
            clear hK2 hS2
            go_wp2
            go_meet
            case rel => exact ⟨true, q, rfl, HS2.out, HK2.out, Or.inl ⟨rfl, rfl, hlt, HN.out⟩⟩
      · have d : decide ((q : Int) < s.size) = false := by simp; omega
        have dN : decide (q < s.size) = false := by simp; omega
        go_wp2
        go_quiet (fail)
        go_wp2
        go_meet
        case rel => exact ⟨false, q, rfl, HS1.out.drewN _, HK1.out.drewN _, Or.inr ⟨rfl, Or.inl ⟨rfl, by omega⟩⟩⟩
    case rest =>
      obtain ⟨B, q2, rfl, hS2, hK2, hB⟩ := hcut
      have HS2 := Lib.hid hS2
      have HK2 := Lib.hid hK2
      have HBB := Lib.hid hB
      have c1 := hS2.c1
      have f1 := hS2.fz 1
      clear hS2 hK2 hB HS1 HK1
      rename_i wc
      cases B
      · have HG := Lib.hid (show p < q2 ∧ q2 ≤ s.size ∧ Lx.Gap s.data.toList p q2 from by
          rcases HBB.out with ⟨h, _⟩ | ⟨_, ⟨rfl, hqe⟩ | hn⟩
          · cases h
          · exact ⟨by omega, hqs, .line p q2 q2 HP.out hpq HNO.out (Or.inl (by omega)) (.done _)⟩
          · have h1 := Lx.nl_le hn (by omega)
            exact ⟨by omega, by omega, .line p q q2 HP.out hpq HNO.out (Or.inr (Lx.nl_some hn)) (Lx.gap_nl hn)⟩)
        obtain ⟨hg1, hg2, _⟩ := HG.out
        have dg : decide ((p : Int) < q2) = true := by simp; omega
        have dgN : decide (p < q2) = true := by simp; omega
        go_wp2_with fail
        refine (ended_any _ p hs (by omega) hg2 HS2.out).mono ?_
        rintro e w3 ⟨⟨E, rfl⟩, hb⟩
        have hS3 := HS2.out.keep hb
        have HK3 := Lib.hid (HK2.out.trans (Kf.of_below _ hb))
        have HS3 := Lib.hid hS3
        have c2 := hS3.c2
        have f2 := hS3.fz 2
        clear hS3 hb
        cases E
        · go_wp2
          go_ret
          exact ⟨HK3.out, Or.inr (Or.inl ⟨q2, ln, rfl, HS3.out, HG.out.1, HG.out.2.1, HG.out.2.2⟩)⟩
        · go_wp2
          go_ret
          exact ⟨HK3.out.setB 2 _, Or.inr (Or.inl ⟨q2, true, rfl, HS3.out.setLn true, HG.out.1, HG.out.2.1, HG.out.2.2⟩)⟩
      · have HQ := Lib.hid (show q2 = q ∧ q < s.size ∧ Lx.nl s.data.toList q = none from by
          rcases HBB.out with ⟨_, h⟩ | ⟨h, _⟩
          · exact h
          · cases h)
        obtain ⟨rfl, hq2, _⟩ := HQ.out
        go_wp2_with fail
        go_roundw
        case rel => exact ⟨q2 + 1, by omega, by omega, HS2.out.setTo (by omega), HK2.out.setB 1 _, fun i h1 h2 => by
          rcases Nat.lt_or_ge i q2 with h3 | h3
          · exact HNO.out i h1 h3
          · obtain rfl : i = q2 := by omega
            exact Lx.nl_none HQ.out.2.2⟩
        case measure => rw [posQ_scn (HS2.out.setTo (q := q2 + 1) (by omega)), HP1.out]; omega
end
end Go.Proofs.YtcgibcjpkhefpaaGreatDoor

/-
  lex.Quote (13): the text literal of given units.
-/
import Derived.Test.YtcgibcjpkhefpaaGreatDoorV0
namespace Go.Proofs.YtcgibcjpkhefpaaGreatDoor
open Go.RowKit
/-- Behind an append of a unit's bytes. -/
theorem step_fin {w W w' : World} {B B2 n m j u : Nat} {v v' v2 : Value} {us : List Nat} {xs2 news : List Value} (hO : W.ownsRow B 5 1 v (qs us j).length ((qs us j).map u8V)) (hU : W.ownsRow B2 55 1 v2 n xs2) (hB : Below B w W) (hBs : B ≤ W.heap.size)
    (hX : w'.ownsRow B 5 1 v' ((qs us j).length + m) ((qs us j).map u8V ++ news)) (hg : W.grownBy w' v.ownBlock) (hn : news = (Lx.q1 u).map u8V) (hm : m = (Lx.q1 u).length) (hq : qs us (j + 1) = qs us j ++ Lx.q1 u) :
    w'.ownsRow B 5 1 v' (qs us (j + 1)).length ((qs us (j + 1)).map u8V) ∧ w'.ownsRow B2 55 1 v2 n xs2 ∧ Below B w w' := by
  subst hn hm
  refine ⟨?_, own_other hU hO (by decide) hg, below_grown hB hg hBs (fun k hk => (hO.lt k hk).1)⟩
  rw [hq, List.length_append, List.map_append]
  exact hX
set_option maxHeartbeats 4000000 in
set_option maxRecDepth 100000 in
theorem quote_any (s : ByteArray) (w : World) (hs : s.size ≤ 262144) :
    Calls Tryz.prog 13 #[.string s] w fun e w' => e = .returned (.string ⟨(Lx.quoteB (Lx.unitsOf s.data.toList)).toArray⟩) ∧ Below w.heap.size w w' := by
  have HUN := Lib.hid (fun w1 => units28_any s w1 hs)
  have hn : (Lx.unitsOf s.data.toList).length ≤ 131072 := by rw [units_len _ _ (Nat.le_refl _)]; simp; omega
  have HLT := Lib.hid (Lx.unitsOf_lt _ s.data.toList (Nat.le_refl _))
  generalize Lx.unitsOf s.data.toList = us at *
  have HQL := Lib.hid (qs_len us)
  obtain ⟨i0, hi, hz0, hz1, hz2⟩ := info_parts info5
  have HI := Lib.hid (And.intro hi (And.intro hz0 (And.intro hz1 hz2)))
  clear hi hz0 hz1 hz2
  go_enter Tryz.func13, Tryz.ntmps13
  go_wp2_with fail
  have HO0 := Lib.hid (show (w.alloc (.cells #[.int .u8 34] 5)).ownsRow w.heap.size 5 1 (.slice (some ⟨w.heap.size, 0, none⟩) 1 1) (qs us 0).length ((qs us 0).map u8V) from own_new w 5 [.int .u8 34] (by decide))
  refine (HUN.out _).mono ?_
  rintro e w1 ⟨v, rfl, ho, hb⟩
  have HO1 := Lib.hid (own_below HO0.out hb)
  have HB1 := Lib.hid (((Below.refl _ _).alloc (Nat.le_refl _) (.cells #[.int .u8 34] 5)).trans (hb.mono (by simp)))
  obtain ⟨n, hnn⟩ : ∃ n, us.length = n := ⟨_, rfl⟩
  rw [hnn] at ho hn
  obtain ⟨a, cap, rfl⟩ := own_form ho
  have HN := Lib.hid hnn
  have HU1 := Lib.hid ho
  clear ho hb hnn
  go_wp2_with fail
  go_loopw [3, 10] (fun v i wr => ∃ j : Nat, i = .int .i64 j ∧ j ≤ n ∧ wr.ownsRow w.heap.size 5 1 v (qs us j).length ((qs us j).map u8V) ∧ wr.ownsRow (w.alloc (.cells #[.int .u8 34] 5)).heap.size 55 1 (.slice a n cap) n (us.map u16V) ∧ Below w.heap.size w wr) (fun _ i _ => n - (intOf i).toNat)
  case atStart => exact ⟨0, rfl, by omega, HO1.out, HU1.out, HB1.out⟩
  case round =>
    obtain ⟨j, rfl, hj, hown, hun, hB⟩ := hrel
    have HO := Lib.hid hown
    have HU := Lib.hid hun
    have HB := Lib.hid hB
    clear hown hun hB
    by_cases hlt : j < n
    · obtain ⟨g, rfl, hc1, hc2, hcell⟩ := own_cells HU.out (by omega)
      have hju : j < us.length := by have := HN.out; omega
      have huj := List.getElem?_eq_getElem hju
      have hu := HLT.out _ (List.getElem_mem hju)
      generalize us[j] = u at *
      have hcu := hcell j (.int .u16 u) (by rw [List.getElem?_map, huj]; rfl)
      have HQN := Lib.hid (qs_next huj)
      have hql : (qs us j).length ≤ 6 * n + 1 := by have := HQL.out j; rw [HN.out] at this; exact this
      have hadd : (⟨g, 0, none⟩ : Addr).add j = ⟨g, j, none⟩ := by unfold Addr.add; split <;> simp_all
      clear huj hju hcell
      by_cases h1 : u = 34
      · subst h1
        go_wp2_with (at_builtin; refine wpList_append_own _ rfl _ _ 52 rfl w.heap.size 5 i0 (.int .u8 0) 1 1 Tryz.underlying52 HI.out.1 HI.out.2.1 HI.out.2.2.1 HI.out.2.2.2 rfl (by decide) _ _ _ rfl (HO.out.alloc _) ⟨wr.heap.size, 0, none⟩ 2 2 [.int .u8 92, .int .u8 34] rfl rfl ?c1 ?c2 ?c3 ?c4 ?c5 ?_)
        case c1 => intro q x hq; rw [show (⟨wr.heap.size, 0, none⟩ : Addr).add q = ⟨wr.heap.size, q, none⟩ from by unfold Addr.add; split <;> simp_all, cellU (heap_alloc_new wr _) q]; rw [← hq]; simp
        case c2 => intro u hu; simp at hu; rcases hu with rfl | rfl <;> rfl
        case c3 => unfold maxLen; omega
        case c4 => omega
        case c5 => have := HB.out.size; simp; omega
        intro v' w2 hown' hgrow _
        have HF := Lib.hid (step_fin (u := 34) (HO.out.alloc _) (HU.out.alloc _) (HB.out.alloc HB.out.size _) (by have := HB.out.size; simp; omega) hown' hgrow rfl rfl HQN.out)
        clear hown' hgrow
        go_wp2
        exact ⟨⟨j + 1, by simp, by omega, HF.out.1, HF.out.2.1, HF.out.2.2⟩, by simp [intOf]; omega⟩
      by_cases h2 : u = 92
      · subst h2
        go_wp2_with (at_builtin; refine wpList_append_own _ rfl _ _ 52 rfl w.heap.size 5 i0 (.int .u8 0) 1 1 Tryz.underlying52 HI.out.1 HI.out.2.1 HI.out.2.2.1 HI.out.2.2.2 rfl (by decide) _ _ _ rfl (HO.out.alloc _) ⟨wr.heap.size, 0, none⟩ 2 2 [.int .u8 92, .int .u8 92] rfl rfl ?c1 ?c2 ?c3 ?c4 ?c5 ?_)
        case c1 => intro q x hq; rw [show (⟨wr.heap.size, 0, none⟩ : Addr).add q = ⟨wr.heap.size, q, none⟩ from by unfold Addr.add; split <;> simp_all, cellU (heap_alloc_new wr _) q]; rw [← hq]; simp
        case c2 => intro u hu; simp at hu; rcases hu with rfl | rfl <;> rfl
        case c3 => unfold maxLen; omega
        case c4 => omega
        case c5 => have := HB.out.size; simp; omega
        intro v' w2 hown' hgrow _
        have HF := Lib.hid (step_fin (u := 92) (HO.out.alloc _) (HU.out.alloc _) (HB.out.alloc HB.out.size _) (by have := HB.out.size; simp; omega) hown' hgrow rfl rfl HQN.out)
        clear hown' hgrow
        go_wp2
        exact ⟨⟨j + 1, by simp, by omega, HF.out.1, HF.out.2.1, HF.out.2.2⟩, by simp [intOf]; omega⟩
      have g1 : ((u : Int) == 34) = false := by simp; omega
      have g2 : ((u : Int) == 92) = false := by simp; omega
      have d1 : ¬ (u : Int) = 34 := by omega
      have d2 : ¬ (u : Int) = 92 := by omega
      by_cases h3 : 32 ≤ u ∧ u ≤ 126
      · obtain ⟨h3, h4⟩ := h3
        have HQ1 := Lib.hid (q1_mid h1 h2 h3 h4)
        have k1 : (32 : Int) ≤ u := by omega
        have k2 : (u : Int) ≤ 126 := by omega
        have wu : IntKind.u8.wrap (u : Int) = u := u8_in _ (by omega)
        go_wp2_with (at_builtin; refine wpList_append_own _ rfl _ _ 52 rfl w.heap.size 5 i0 (.int .u8 0) 1 1 Tryz.underlying52 HI.out.1 HI.out.2.1 HI.out.2.2.1 HI.out.2.2.2 rfl (by decide) _ _ _ rfl (HO.out.alloc _) ⟨wr.heap.size, 0, none⟩ 1 1 [.int .u8 (u : Int)] rfl rfl ?c1 ?c2 ?c3 ?c4 ?c5 ?_)
        case c1 => intro q x hq; rw [show (⟨wr.heap.size, 0, none⟩ : Addr).add q = ⟨wr.heap.size, q, none⟩ from by unfold Addr.add; split <;> simp_all, cellU (heap_alloc_new wr _) q]; rw [← hq]; simp
        case c2 => intro u hu; simp at hu; subst hu; rfl
        case c3 => unfold maxLen; omega
        case c4 => omega
        case c5 => have := HB.out.size; simp; omega
        intro v' w2 hown' hgrow _
        have HF := Lib.hid (step_fin (u := u) (HO.out.alloc _) (HU.out.alloc _) (HB.out.alloc HB.out.size _) (by have := HB.out.size; simp; omega) hown' hgrow (by rw [HQ1.out]; simp [u8V]; omega) (by rw [HQ1.out]; rfl) HQN.out)
        clear hown' hgrow
        go_wp2
        exact ⟨⟨j + 1, by simp, by omega, HF.out.1, HF.out.2.1, HF.out.2.2⟩, by simp [intOf]; omega⟩
      · have HQ1 := Lib.hid (q1_out h1 h2 h3)
        obtain ⟨a, b, c, d, ha, hb, hc, hd, i1, i2, i3, i4, hq2⟩ := hex_parts hu HQ1.out
        have HQ2 := Lib.hid hq2
        clear hq2
        have za : (a : Int) < 16 := by omega
        have zb : (b : Int) < 16 := by omega
        have zc : (c : Int) < 16 := by omega
        have zd : (d : Int) < 16 := by omega
        have C2 := Lib.hid (show (qs us j).length + 6 ≤ maxLen by unfold maxLen; omega)
        have C3 := Lib.hid (show ((qs us j).length + 6) * 1 ≤ 140737488355328 by omega)
        have C4 := Lib.hid (show ∀ o, w.heap.size ≤ (wr.drew.alloc o).heap.size from fun o => by have := HB.out.size; simp; omega)
        have HR : (32 ≤ u → decide ((u : Int) ≤ 126) = false) := fun h => by simp; omega
        have HR := Lib.hid HR
        have C4b := Lib.hid (show w.heap.size ≤ wr.drew.heap.size by have := HB.out.size; simpa using this)
        by_cases h5 : 32 ≤ u
        · have k1 : (32 : Int) ≤ u := by omega
          have k2 : decide ((u : Int) ≤ 126) = false := HR.out h5
          go_wp2
          go_region_law (refine wanted_step rfl (wp_append_own _ (.tmp 14) (.tmp 29) 52 rfl w.heap.size 5 i0 (.int .u8 0) 1 1 Tryz.underlying52 HI.out.1 HI.out.2.1 HI.out.2.2.1 HI.out.2.2.2 rfl (by decide) _ _ _ (by simp [Act.eval]) (HO.out.drew.alloc _) ⟨wr.heap.size, 0, none⟩ 6 6 [.int .u8 92, .int .u8 117, hxV a ha, hxV b hb, hxV c hc, hxV d hd] (by simp [Act.eval]) rfl (fun q x hq => (cells_at wr _ _ q).trans (by rw [← hq]; simp [hxV])) (fun x hx => by simp [hxV] at hx; rcases hx with rfl | rfl | rfl | rfl | rfl | rfl <;> rfl) C2.out C3.out (C4.out _) (fun v' w' hown' hgrow _ => ?_)))
          all_goals
            have HF := Lib.hid (step_fin (u := u) (HO.out.drew.alloc _) (HU.out.drew.alloc _) ((HB.out.drew).alloc (C4b.out) _) (C4.out _) hown' hgrow HQ2.out.1 HQ2.out.2 HQN.out)
            clear hown' hgrow
            go_wp2
            exact ⟨⟨j + 1, by simp, by omega, HF.out.1, HF.out.2.1, HF.out.2.2⟩, by simp [intOf]; omega⟩
        · have k1 : decide ((32 : Int) ≤ u) = false := by simp; omega
          go_wp2
          go_region_law (refine wanted_step rfl (wp_append_own _ (.tmp 14) (.tmp 29) 52 rfl w.heap.size 5 i0 (.int .u8 0) 1 1 Tryz.underlying52 HI.out.1 HI.out.2.1 HI.out.2.2.1 HI.out.2.2.2 rfl (by decide) _ _ _ (by simp [Act.eval]) (HO.out.drew.alloc _) ⟨wr.heap.size, 0, none⟩ 6 6 [.int .u8 92, .int .u8 117, hxV a ha, hxV b hb, hxV c hc, hxV d hd] (by simp [Act.eval]) rfl (fun q x hq => (cells_at wr _ _ q).trans (by rw [← hq]; simp [hxV])) (fun x hx => by simp [hxV] at hx; rcases hx with rfl | rfl | rfl | rfl | rfl | rfl <;> rfl) C2.out C3.out (C4.out _) (fun v' w' hown' hgrow _ => ?_)))
          all_goals
            have HF := Lib.hid (step_fin (u := u) (HO.out.drew.alloc _) (HU.out.drew.alloc _) ((HB.out.drew).alloc (C4b.out) _) (C4.out _) hown' hgrow HQ2.out.1 HQ2.out.2 HQN.out)
            clear hown' hgrow
            go_wp2
            exact ⟨⟨j + 1, by simp, by omega, HF.out.1, HF.out.2.1, HF.out.2.2⟩, by simp [intOf]; omega⟩
    · have hje : j = n := by omega
      subst hje
      have hql : (qs us j).length ≤ 6 * j + 1 := by have := HQL.out j; rw [HN.out] at this; exact this
      go_wp2_with (at_builtin; refine wpList_append_own _ rfl _ _ 52 rfl w.heap.size 5 i0 (.int .u8 0) 1 1 Tryz.underlying52 HI.out.1 HI.out.2.1 HI.out.2.2.1 HI.out.2.2.2 rfl (by decide) _ _ _ rfl (HO.out.alloc _) ⟨wr.heap.size, 0, none⟩ 1 1 [.int .u8 34] rfl rfl ?c1 ?c2 ?c3 ?c4 ?c5 ?_)
      case c1 => intro q x hq; rw [show (⟨wr.heap.size, 0, none⟩ : Addr).add q = ⟨wr.heap.size, q, none⟩ from by unfold Addr.add; split <;> simp_all, cellU (heap_alloc_new wr _) q]; rw [← hq]; simp
      case c2 => intro u hu; simp at hu; subst hu; rfl
      case c3 => unfold maxLen; omega
      case c4 => omega
      case c5 => have := HB.out.size; simp; omega
      intro v' w2 hown' hgrow _
      have HB2 := Lib.hid (below_grown (HB.out.alloc HB.out.size (.cells #[.int .u8 34] 5)) hgrow (by have := HB.out.size; simp; omega) (fun k hk => (HO.out.lt k hk).1))
      obtain ⟨a', cap', rfl⟩ := own_form hown'
      obtain ⟨g', rfl, _, _, hcell⟩ := own_cells hown' (by omega)
      have hqe : qs us j ++ [34] = Lx.quoteB us := by rw [← HN.out]; exact qs_end us
      have hlen : (qs us j).length + 1 = (Lx.quoteB us).length := by rw [← hqe]; simp
      have hcv : (convert 52 9 (.slice (some ⟨g', 0, none⟩) ((qs us j).length + 1) cap')).run Tryz.prog w2 = .ok (.string ⟨(Lx.quoteB us).toArray⟩) w2 := by
        rw [hlen]
        refine run_convert_bytes_back w2 52 9 5 ⟨g', 0, none⟩ cap' (Lx.quoteB us) Tryz.underlying52 Tryz.underlying5 Tryz.underlying9 (fun q hq => ?_)
        have hadd : (⟨g', 0, none⟩ : Addr).add q = ⟨g', q, none⟩ := by unfold Addr.add; split <;> simp_all
        rw [hadd]
        refine hcell q _ ?_
        have e : (qs us j).map u8V ++ [Value.int .u8 34] = (Lx.quoteB us).map u8V := by rw [← hqe]; simp [u8V]
        rw [e, List.getElem?_map, List.getElem?_eq_getElem hq]
        rfl
      clear hown' hgrow hcell hqe hlen
      go_wp2
      exact bodyPost_ret (v := .string ⟨(Lx.quoteB us).toArray⟩) (by simp [results, Tryz.results13]) rfl ⟨rfl, HB2.out⟩
end Go.Proofs.YtcgibcjpkhefpaaGreatDoor

/-
  The reference's Point (37), Make (38) and Of (25): that a text of code points is found to be UTF-8.
-/
import Derived.Test.YtcgibcjpkhefpaaGreatDoorZU3
import Derived.Test.YtcgibcjpkhefpaaGreatDoorZY4
namespace Go.Proofs.YtcgibcjpkhefpaaGreatDoor
open Go.RowKit
/-- A value that is a unit. -/
def IsU16 (u : Value) : Prop := ∃ x : Nat, x < 65536 ∧ u = .int .u16 x
theorem u16_rng (x : Int) : ∃ y : Nat, y < 65536 ∧ IntKind.u16.wrap x = (y : Int) := by
  rw [IntKind.wrap_u16]
  exact ⟨(x % 65536).toNat, by omega, by omega⟩
def PointPost (w : World) (e : Ending) (w' : World) : Prop := ∃ us : List Value, 1 ≤ us.length ∧ us.length ≤ 2 ∧ (∀ u ∈ us, IsU16 u) ∧ e = .returned (.slice (some ⟨w.heap.size, 0, none⟩) us.length us.length) ∧ w' = w.alloc (.cells us.toArray 55)
set_option maxHeartbeats 1000000 in
theorem rPoint_any (r : Nat) (w : World) (hr : r ≤ 1114111) : Calls Tryz.prog 37 #[.int .i32 r] w (PointPost w) := by
  have h0 : decide ((r : Int) < 0) = false := by simp
  have h1 : decide ((1114111 : Int) < (r : Int)) = false := by simp; omega
  by_cases hlt : r < 65536
  · have h2 : (r : Int) < 65536 := by omega
    have hw : IntKind.u16.wrap (r : Int) = (r : Int) := u16_in _ (by omega)
    go_enter Tryz.func37, Tryz.ntmps37
    go_wp2
    exact bodyPost_ret (v := .slice (some ⟨w.heap.size, 0, none⟩) 1 1) (by simp [results, Tryz.results37]) rfl ⟨[.int .u16 r], by simp, by simp, fun u hu => by simp at hu; exact ⟨r, hlt, hu⟩, rfl, rfl⟩
  · have h2 : decide ((r : Int) < 65536) = false := by simp; omega
    obtain ⟨c, hc⟩ : ∃ c : Nat, (r : Int) - 65536 = c := ⟨r - 65536, by omega⟩
    have hw : IntKind.i32.wrap ((r : Int) - 65536) = (c : Int) := by rw [hc]; exact i32_in _ (by omega)
    have hcb : c ≤ 1048575 := by omega
    have w1 : IntKind.i32.wrap (55296 + (c : Int) / 1024) = 55296 + (c : Int) / 1024 := i32_in _ (by omega)
    have w2 : IntKind.i32.wrap (56320 + (c : Int) % 1024) = 56320 + (c : Int) % 1024 := i32_in _ (by omega)
    have w3 : IntKind.u16.wrap (55296 + (c : Int) / 1024) = 55296 + (c : Int) / 1024 := u16_in _ (by omega)
    have w4 : IntKind.u16.wrap (56320 + (c : Int) % 1024) = 56320 + (c : Int) % 1024 := u16_in _ (by omega)
    clear hc
    go_enter Tryz.func37, Tryz.ntmps37
    go_wp2
    refine bodyPost_ret (v := .slice (some ⟨w.heap.size, 0, none⟩) 2 2) (by simp [results, Tryz.results37]) rfl ⟨[.int .u16 (55296 + (c : Int) / 1024), .int .u16 (56320 + (c : Int) % 1024)], by simp, by simp, fun u hu => ?_, rfl, rfl⟩
    simp only [List.mem_cons, List.not_mem_nil, or_false] at hu
    rcases hu with rfl | rfl
    · exact ⟨55296 + c / 1024, by omega, by congr 1⟩
    · exact ⟨56320 + c % 1024, by omega, by congr 1⟩
theorem u8_rng (x : Int) : ∃ c : UInt8, IntKind.u8.wrap x = (c.toNat : Int) := by
  refine ⟨UInt8.ofNat (x % 256).toNat, ?_⟩
  have : IntKind.u8.wrap x = x % 256 := by simp [IntKind.wrap, IntKind.signed, IntKind.bits]
  rw [this]
  simp
  omega
set_option maxHeartbeats 4000000 in
set_option maxRecDepth 100000 in
theorem rMake_any (v : Value) (n B : Nat) (us : List Value) (w : World) (hn : us.length = n) (hn1 : 0 < n) (hn2 : n ≤ 65536) (hU : ∀ u ∈ us, IsU16 u) (hO : w.ownsRow B 55 1 v n us) :
    Calls Tryz.prog 38 #[v] w fun e w' => (∃ X, e = .returned (.string X)) ∧ Below w.heap.size w w' := by
  obtain ⟨a, cap, rfl⟩ := own_form hO
  have HO := Lib.hid hO
  clear hO
  obtain ⟨i0, hi, hz0, hz1, hz2⟩ := info_parts info5
  have HI := Lib.hid (And.intro hi (And.intro hz0 (And.intro hz1 hz2)))
  clear hi hz0 hz1 hz2
  go_enter Tryz.func38, Tryz.ntmps38
  go_wp2
  go_loopw [3, 8] (fun x i wr => ∃ (j : Nat) (bs : List UInt8), i = .int .i64 j ∧ j ≤ n ∧ bs.length = 2 * j ∧ wr.ownsRow w.heap.size 5 1 x bs.length (bs.map u8V) ∧ Below w.heap.size w wr) (fun _ i _ => n - (intOf i).toNat)
  case atStart => exact ⟨0, [], rfl, by omega, rfl, ⟨by simp, Or.inl ⟨rfl, rfl⟩⟩, Below.refl _ _⟩
  case round =>
    obtain ⟨j, bs, rfl, hj, hbl, hown, hB⟩ := hrel
    have HB := Lib.hid hB
    have HX := Lib.hid hown
    clear hB hown
    by_cases hlt : j < n
    · have hji : (j : Int) < n := by omega
      obtain ⟨x, hx, hux⟩ := hU _ (List.getElem_mem (show j < us.length by omega))
      obtain ⟨g, rfl, hnc, hcm, hcell⟩ := own_cells (own_below HO.out HB.out) (by omega)
      have hc0 : wr.cell? ⟨g, j, none⟩ = some (.int .u16 x) := by rw [← hux]; exact hcell j _ (List.getElem?_eq_getElem (by omega))
      have hadd : (⟨g, 0, none⟩ : Addr).add j = ⟨g, j, none⟩ := by unfold Addr.add; split <;> simp_all
      clear hcell hux
      obtain ⟨c1, hc1⟩ := u8_rng ((x : Int) / 256)
      obtain ⟨c2, hc2⟩ := u8_rng (x : Int)
      go_wp2_with (at_builtin; refine wpList_append_own _ rfl _ _ 52 rfl w.heap.size 5 i0 (.int .u8 0) 1 1 Tryz.underlying52 HI.out.1 HI.out.2.1 HI.out.2.2.1 HI.out.2.2.2 rfl (by decide) _ _ _ rfl (HX.out.alloc _) ⟨wr.heap.size, 0, none⟩ 2 2 [.int .u8 c1.toNat, .int .u8 c2.toNat] rfl rfl ?c1 ?c2 ?c3 ?c4 ?c5 ?_)
      case c1 => intro q y hq; rw [show (⟨wr.heap.size, 0, none⟩ : Addr).add q = ⟨wr.heap.size, q, none⟩ from by unfold Addr.add; split <;> simp_all, cellU (heap_alloc_new wr _) q]; rw [← hq]; simp
      case c2 => intro y hy; simp at hy; rcases hy with rfl | rfl <;> rfl
      case c3 => unfold maxLen; omega
      case c4 => omega
      case c5 => have := HB.out.size; simp; omega
      intro v' w2 hown' hgrow _
      have HY := Lib.hid hown'
      have HB2 := Lib.hid (below_grown (HB.out.alloc HB.out.size (.cells #[.int .u8 c1.toNat, .int .u8 c2.toNat] 5)) hgrow (by have := HB.out.size; simp; omega) (fun k hk => (HX.out.lt k hk).1))
      clear hown' hgrow
      go_wp2
      go_roundw
      case rel => exact ⟨j + 1, bs ++ [c1, c2], by simp, by omega, by simp; omega, by simpa [u8V, hbl] using HY.out, HB2.out⟩
      case measure => simp [intOf]; omega
    · obtain rfl : j = n := by omega
      obtain ⟨a', cap', hx⟩ := own_form HX.out
      subst hx
      obtain ⟨g', ha, _, _, hcell⟩ := own_cells HX.out (by omega)
      subst ha
      have hcv : (convert 52 28 (.slice (some ⟨g', 0, none⟩) bs.length cap')).run Tryz.prog wr = .ok (.string ⟨bs.toArray⟩) wr := by
        refine run_convert_bytes_back wr 52 28 5 ⟨g', 0, none⟩ cap' bs Tryz.underlying52 Tryz.underlying5 Tryz.underlying28 (fun q hq => ?_)
        have hadd : (⟨g', 0, none⟩ : Addr).add q = ⟨g', q, none⟩ := by unfold Addr.add; split <;> simp_all
        rw [hadd]
        refine hcell q _ ?_
        rw [List.getElem?_map, List.getElem?_eq_getElem hq]
        rfl
      clear hcell hbl
      go_wp2
      exact bodyPost_ret (v := .string ⟨bs.toArray⟩) (by simp [results, Tryz.results38]) rfl ⟨⟨_, rfl⟩, HB.out⟩
set_option maxHeartbeats 4000000 in
set_option maxRecDepth 100000 in
/-- Of (25): the text is UTF-8: no error. -/
theorem rof_any (s : ByteArray) (w : World) (hs0 : 0 < s.size) (hs : s.size ≤ 16384) (hC : Lx.Chain s.data.toList 0 s.data.toList.length) :
    Calls Tryz.prog 25 #[.string s] w fun e w' => (∃ X, e = .returned (.tuple #[.string X, .int .i64 0, .int .i64 0])) ∧ Below w.heap.size w w' := by
  have hlen : s.data.toList.length = s.size := by simp
  have HC := Lib.hid hC
  clear hC
  obtain ⟨i0, hi, hz0, hz1, hz2⟩ := info_parts info55
  have HI := Lib.hid (And.intro hi (And.intro hz0 (And.intro hz1 hz2)))
  clear hi hz0 hz1 hz2
  go_enter Tryz.func25, Tryz.ntmps25
  go_wp2
  go_loopw [5, 6] (fun v i wr => ∃ (q : Nat) (us : List Value), i = .int .i64 q ∧ q ≤ s.size ∧ us.length ≤ 2 * q ∧ (0 < q → 0 < us.length) ∧ (∀ u ∈ us, IsU16 u) ∧ Lx.Chain s.data.toList q s.data.toList.length ∧ wr.ownsRow w.heap.size 55 1 v us.length us ∧ Below w.heap.size w wr) (fun _ i _ => s.size - (intOf i).toNat)
  case atStart => exact ⟨0, [], rfl, by omega, by simp, by omega, fun u hu => (by cases hu), HC.out, ⟨by simp, Or.inl ⟨rfl, rfl⟩⟩, Below.refl _ _⟩
  case round =>
    obtain ⟨q, us, rfl, hq, hul, hup, hU, hch, hown, hB⟩ := hrel
    have HB := Lib.hid hB
    have HX := Lib.hid hown
    have HU := Lib.hid hU
    clear hB hown hU
    by_cases hlt : q < s.size
    · have hqi : (q : Int) < s.size := by omega
      have hqi2 : (q : Int) ≤ s.size := by omega
      obtain ⟨n, hg, hch2⟩ : ∃ n, Lx.GoodAt s.data.toList q n ∧ Lx.Chain s.data.toList (q + n) s.data.toList.length := by
        cases hch with
        | done => omega
        | step _ n _ a b => exact ⟨n, a, b⟩
      obtain ⟨hn1, hn4⟩ := hg.2.pos
      have hqn := hg.1
      have hsz : (s.extract q s.size).size = s.size - q := by rw [ByteArray.size_extract]; omega
      have HPT := Lib.hid (fun w => rpoint_any (s.extract q s.size) n w (by omega) (by
        rw [Lx.ext_drop, Lx.bn_drop, Lx.bn_drop, Lx.bn_drop, Lx.bn_drop]; exact hg.2))
      have HCH := Lib.hid hch2
      have hnz : ((n : Int) == 0) = false := by simp; omega
      have hwn : IntKind.i64.wrap ((q : Int) + n) = (q : Int) + n := IntWalk.i64_in _ (by omega)
      clear hch hch2 hg hsz
      go_wp2_with fail
      refine (HPT.out _).mono ?_
      rintro e w1 ⟨⟨r, hr, rfl⟩, rfl⟩
      go_wp2_with fail
      refine (rPoint_any r _ hr).mono ?_
      rintro e w2 ⟨vs, hv1, hv2, hvU, rfl, rfl⟩
      generalize hvl : vs.length = m at *
      go_wp2_with (at_builtin; go_loud (refine wpList_append_own _ rfl _ _ 53 rfl w.heap.size 55 i0 (.int .u16 0) 1 2 Tryz.underlying53 HI.out.1 HI.out.2.1 HI.out.2.2.1 HI.out.2.2.2 rfl (by decide) _ _ _ rfl (HX.out.alloc _) ⟨w1.heap.size, 0, none⟩ m m vs rfl ?c0 ?c1 ?c2 ?c3 ?c4 ?c5 ?_))
      case c0 => rw [hvl]; omega
      case c1 => intro k y hy; rw [show (⟨w1.heap.size, 0, none⟩ : Addr).add k = ⟨w1.heap.size, k, none⟩ from by unfold Addr.add; split <;> simp_all, cellU (heap_alloc_new w1 _) k]; simpa using hy
      case c2 => intro y hy; obtain ⟨x, _, rfl⟩ := hvU y hy; rfl
      case c3 => unfold maxLen; omega
      case c4 => omega
      case c5 => have := HB.out.size; simp; omega
      intro v' w2 hown' hgrow _
      have HY := Lib.hid hown'
      have HB2 := Lib.hid (below_grown (HB.out.alloc HB.out.size (.cells vs.toArray 55)) hgrow (by have := HB.out.size; simp; omega) (fun k hk => (HX.out.lt k hk).1))
      clear hown' hgrow
      go_wp2
      go_roundw
      case rel =>
        refine ⟨q + n, us ++ vs, by simp, by omega, by simp; omega, fun _ => by simp; omega, fun u hu => ?_, HCH.out, by simpa [hvl] using HY.out, HB2.out⟩
        rcases List.mem_append.1 hu with h | h
        · exact HU.out u h
        · exact hvU u h
      case measure => simp [intOf]; omega
    · obtain rfl : q = s.size := by omega
      have HUP := Lib.hid (hup hs0)
      clear hch
      go_wp2_with fail
      refine (rMake_any _ us.length w.heap.size us _ rfl HUP.out (by omega) HU.out HX.out).mono ?_
      rintro e w2 ⟨⟨X, rfl⟩, hb⟩
      go_wp2
      exact bodyPost_ret (v := .tuple #[.string X, .int .i64 0, .int .i64 0]) (by simp [results, Tryz.results25]) rfl ⟨⟨_, rfl⟩, HB.out.trans (hb.mono HB.out.size)⟩
end Go.Proofs.YtcgibcjpkhefpaaGreatDoor

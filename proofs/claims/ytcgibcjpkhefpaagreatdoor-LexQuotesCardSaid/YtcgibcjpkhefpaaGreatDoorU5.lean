/-
  The reference's Quote (14): the text literal of given units.
-/
import Derived.Test.YtcgibcjpkhefpaaGreatDoorV0
import Derived.Deep.LoopGhost
namespace Go.Proofs.YtcgibcjpkhefpaaGreatDoor
open Go.RowKit
theorem u8_allQ {P : UInt8 → Prop} (h : ∀ n : Fin 256, P (UInt8.ofNat n.val)) : ∀ c, P c := fun c => by
  have := h ⟨c.toNat, c.toNat_lt⟩
  simpa using this
theorem enc_asciiQ : ∀ c : UInt8, c.toNat < 128 → Utf8.encode (c.toNat : Int) = ⟨#[c]⟩ := u8_allQ (by decide +kernel)
theorem conv_byteQ (c : UInt8) (h : c.toNat < 128) (w : World) : (convert 5 9 (.int .u8 (c.toNat : Int))).run Tryz.prog w = .ok (.string ⟨#[c]⟩) w := by
  rw [run_convert_int_string w 5 9 .u8 _ (by rw [Tryz.underlying5]; rfl) Tryz.underlying9, enc_asciiQ c h]
theorem conv_rune (u : Nat) (h : u < 128) (w : World) : (convert 21 9 (.int .i32 (u : Int))).run Tryz.prog w = .ok (.string ⟨#[UInt8.ofNat u]⟩) w := by
  rw [run_convert_int_string w 21 9 .i32 _ (by rw [Tryz.underlying21]; rfl) Tryz.underlying9]
  have := enc_asciiQ (UInt8.ofNat u) (by simp; omega)
  have e : ((UInt8.ofNat u).toNat : Int) = (u : Int) := by simp; omega
  rw [e] at this
  rw [this]
theorem i32_in (x : Int) (h : 0 ≤ x ∧ x < 65536) : IntKind.i32.wrap x = x := by
  simp [IntKind.wrap, IntKind.signed, IntKind.bits]
  omega
theorem str_app (l m : List UInt8) : (⟨l.toArray⟩ : ByteArray) ++ ⟨m.toArray⟩ = ⟨(l ++ m).toArray⟩ := by
  apply ByteArray.ext
  simp
theorem hx_ascii (n : Nat) (h : n < 16) : (Lx.hx n).toNat < 128 := by
  have : ∀ k : Fin 16, (Lx.hx k.val).toNat < 128 := by decide
  exact this ⟨n, h⟩
theorem hex_parts2 {u : Nat} (hu : u < 65536) (hq : Lx.q1 u = [92, 117, Lx.hx (u / 4096 % 16), Lx.hx (u / 256 % 16), Lx.hx (u / 16 % 16), Lx.hx (u % 16)]) :
    ∃ a b c d : Nat, ∃ (ha : a < 16) (hb : b < 16) (hc : c < 16) (hd : d < 16), bits .and .u16 ((u : Int) / 4096) 15 = (a : Int) ∧ bits .and .u16 ((u : Int) / 256) 15 = (b : Int) ∧ bits .and .u16 ((u : Int) / 16) 15 = (c : Int) ∧ bits .and .u16 (u : Int) 15 = (d : Int) ∧
      Utf8.encode ((((⟨#[48, 49, 50, 51, 52, 53, 54, 55, 56, 57, 97, 98, 99, 100, 101, 102]⟩ : ByteArray)[a]'ha).toNat : Nat) : Int) = ⟨#[Lx.hx a]⟩ ∧ Utf8.encode ((((⟨#[48, 49, 50, 51, 52, 53, 54, 55, 56, 57, 97, 98, 99, 100, 101, 102]⟩ : ByteArray)[b]'hb).toNat : Nat) : Int) = ⟨#[Lx.hx b]⟩ ∧ Utf8.encode ((((⟨#[48, 49, 50, 51, 52, 53, 54, 55, 56, 57, 97, 98, 99, 100, 101, 102]⟩ : ByteArray)[c]'hc).toNat : Nat) : Int) = ⟨#[Lx.hx c]⟩ ∧ Utf8.encode ((((⟨#[48, 49, 50, 51, 52, 53, 54, 55, 56, 57, 97, 98, 99, 100, 101, 102]⟩ : ByteArray)[d]'hd).toNat : Nat) : Int) = ⟨#[Lx.hx d]⟩ ∧
      Lx.q1 u = [92, 117, Lx.hx a, Lx.hx b, Lx.hx c, Lx.hx d] := by
  refine ⟨u / 4096 % 16, u / 256 % 16, u / 16 % 16, u % 16, by omega, by omega, by omega, by omega, and15 u 4096 hu (by decide), and15 u 256 hu (by decide), and15 u 16 hu (by decide), and15' u hu, ?_, ?_, ?_, ?_, hq⟩
  all_goals
    rw [hex_at _ (by omega)]
    exact enc_asciiQ _ (hx_ascii _ (by omega))
set_option maxHeartbeats 4000000 in
set_option maxRecDepth 100000 in
theorem rquote_any (s : ByteArray) (w : World) (hs : s.size ≤ 262144) :
    Calls Tryz.prog 14 #[.string s] w fun e w' => e = .returned (.string ⟨(Lx.quoteB (Lx.unitsOf s.data.toList)).toArray⟩) ∧ Below w.heap.size w w' := by
  have HUN := Lib.hid (fun w1 => runits_any s w1 hs)
  have hn : (Lx.unitsOf s.data.toList).length ≤ 131072 := by rw [units_len _ _ (Nat.le_refl _)]; simp; omega
  have HLT := Lib.hid (Lx.unitsOf_lt _ s.data.toList (Nat.le_refl _))
  generalize Lx.unitsOf s.data.toList = us at *
  have HQL := Lib.hid (qs_len us)
  go_enter Tryz.func14, Tryz.ntmps14
  go_wp2_with fail
  refine (HUN.out _).mono ?_
  rintro e w1 ⟨v, rfl, ho, hb⟩
  obtain ⟨n, hnn⟩ : ∃ n, us.length = n := ⟨_, rfl⟩
  rw [hnn] at ho hn
  obtain ⟨a, cap, rfl⟩ := own_form ho
  have HN := Lib.hid hnn
  have HU := Lib.hid ho
  have HB := Lib.hid hb
  clear ho hb hnn
  go_wp2_with fail
  go_loopw [3, 10] (fun v i wr => ∃ j : Nat, i = .int .i64 j ∧ j ≤ n ∧ v = .string ⟨(qs us j).toArray⟩ ∧ wr = w1) (fun _ i _ => n - (intOf i).toNat)
  case atStart => exact ⟨0, rfl, by omega, rfl, rfl⟩
  case round =>
    obtain ⟨j, rfl, hj, rfl, rfl⟩ := hrel
    by_cases hlt : j < n
    · obtain ⟨g, rfl, hc1, hc2, hcell⟩ := own_cells HU.out (by omega)
      have hju : j < us.length := by have := HN.out; omega
      have huj := List.getElem?_eq_getElem hju
      have hu := HLT.out _ (List.getElem_mem hju)
      generalize us[j] = u at *
      have hcu := hcell j (.int .u16 u) (by rw [List.getElem?_map, huj]; rfl)
      have HQN := Lib.hid (qs_next huj)
      have hadd : (⟨g, 0, none⟩ : Addr).add j = ⟨g, j, none⟩ := by unfold Addr.add; split <;> simp_all
      clear huj hju hcell
      have hql : (qs us j).length ≤ 786433 := by have := HQL.out j; have := HN.out; omega
      have h8 : Utf8.encode 34 = ⟨#[34]⟩ := by decide +kernel
      have h9 : Utf8.encode 92 = ⟨#[92]⟩ := by decide +kernel
      by_cases h1 : u = 34
      · subst h1
        go_wp2
        refine ⟨⟨j + 1, by simp, by omega, ?_, (by first | exact trivial | rfl)⟩, by simp [intOf]; omega⟩
        rw [HQN.out, q1_34, ← str_app]
        rfl
      by_cases h2 : u = 92
      · subst h2
        go_wp2
        refine ⟨⟨j + 1, by simp, by omega, ?_, (by first | exact trivial | rfl)⟩, by simp [intOf]; omega⟩
        rw [HQN.out, q1_92, ← str_app]
        rfl
      have g1 : ((u : Int) == 34) = false := by simp; omega
      have g2 : ((u : Int) == 92) = false := by simp; omega
      have wr32 : IntKind.i32.wrap (u : Int) = u := i32_in _ (by omega)
      by_cases h3 : 32 ≤ u ∧ u ≤ 126
      · obtain ⟨h3, h4⟩ := h3
        have HQ1 := Lib.hid (q1_mid h1 h2 h3 h4)
        have k1 : (32 : Int) ≤ u := by omega
        have k2 : (u : Int) ≤ 126 := by omega
        have he : Utf8.encode (u : Int) = ⟨#[UInt8.ofNat u]⟩ := by
          have := enc_asciiQ (UInt8.ofNat u) (by simp; omega)
          have e : ((UInt8.ofNat u).toNat : Int) = (u : Int) := by simp; omega
          rw [e] at this
          exact this
        go_wp2
        refine ⟨⟨j + 1, by simp, by omega, ?_, (by first | exact trivial | rfl)⟩, by simp [intOf]; omega⟩
        rw [HQN.out, HQ1.out, ← str_app]
      · have HQ1 := Lib.hid (q1_out h1 h2 h3)
        obtain ⟨a, b, c, d, ha, hb, hc, hd, i1, i2, i3, i4, e1, e2, e3, e4, hq2⟩ := hex_parts2 hu HQ1.out
        have HQ2 := Lib.hid hq2
        clear hq2
        have za : (a : Int) < 16 := by omega
        have zb : (b : Int) < 16 := by omega
        have zc : (c : Int) < 16 := by omega
        have zd : (d : Int) < 16 := by omega
        have HR : (32 ≤ u → decide ((u : Int) ≤ 126) = false) := fun h => by simp; omega
        have HR := Lib.hid HR
        have ht : (u : Int) < 32 ∨ (32 ≤ u) := by omega
        rcases ht with ht | ht
        · have k1 : decide ((32 : Int) ≤ u) = false := by simp; omega
          go_wp2
          go_loopg [3, 6] 4 (fun k v i wv => wv = wr ∧ ((k = 4 ∧ i = .int .i64 12 ∧ v = .string ⟨(qs us j ++ [92, 117]).toArray⟩) ∨ (k = 3 ∧ i = .int .i64 8 ∧ v = .string ⟨(qs us j ++ [92, 117, Lx.hx a]).toArray⟩) ∨ (k = 2 ∧ i = .int .i64 4 ∧ v = .string ⟨(qs us j ++ [92, 117, Lx.hx a, Lx.hx b]).toArray⟩) ∨ (k = 1 ∧ i = .int .i64 0 ∧ v = .string ⟨(qs us j ++ [92, 117, Lx.hx a, Lx.hx b, Lx.hx c]).toArray⟩) ∨ (k = 0 ∧ i = .int .i64 (-4) ∧ v = .string ⟨(qs us j ++ [92, 117, Lx.hx a, Lx.hx b, Lx.hx c, Lx.hx d]).toArray⟩)))
          case atStart => exact ⟨rfl, Or.inl ⟨rfl, rfl, by rw [← str_app]⟩⟩
          case round =>
            obtain ⟨rfl, hrel⟩ := hrel
            rcases hrel with ⟨rfl, rfl, rfl⟩ | ⟨rfl, rfl, rfl⟩ | ⟨rfl, rfl, rfl⟩ | ⟨rfl, rfl, rfl⟩ | ⟨rfl, rfl, rfl⟩
            · go_wp2
              go_roundg 3
              case measure => omega
              case rel =>
                refine ⟨rfl, Or.inr (Or.inl ⟨rfl, rfl, ?_⟩)⟩
                rw [str_app]; simp
            · go_wp2
              go_roundg 2
              case measure => omega
              case rel =>
                refine ⟨rfl, Or.inr (Or.inr (Or.inl ⟨rfl, rfl, ?_⟩))⟩
                rw [str_app]; simp
            · go_wp2
              go_roundg 1
              case measure => omega
              case rel =>
                refine ⟨rfl, Or.inr (Or.inr (Or.inr (Or.inl ⟨rfl, rfl, ?_⟩)))⟩
                rw [str_app]; simp
            · go_wp2
              go_roundg 0
              case measure => omega
              case rel =>
                refine ⟨rfl, Or.inr (Or.inr (Or.inr (Or.inr (⟨rfl, rfl, ?_⟩))))⟩
                rw [str_app]; simp
            · go_wp2
              refine ⟨⟨j + 1, by simp, by omega, ?_, (by first | exact trivial | rfl)⟩, by simp [intOf]; omega⟩
              rw [HQN.out, HQ2.out]
        · have k1 : (32 : Int) ≤ u := by omega
          have k2 : decide ((u : Int) ≤ 126) = false := HR.out ht
          go_wp2
          go_loopg [3, 6] 4 (fun k v i wv => wv = wr ∧ ((k = 4 ∧ i = .int .i64 12 ∧ v = .string ⟨(qs us j ++ [92, 117]).toArray⟩) ∨ (k = 3 ∧ i = .int .i64 8 ∧ v = .string ⟨(qs us j ++ [92, 117, Lx.hx a]).toArray⟩) ∨ (k = 2 ∧ i = .int .i64 4 ∧ v = .string ⟨(qs us j ++ [92, 117, Lx.hx a, Lx.hx b]).toArray⟩) ∨ (k = 1 ∧ i = .int .i64 0 ∧ v = .string ⟨(qs us j ++ [92, 117, Lx.hx a, Lx.hx b, Lx.hx c]).toArray⟩) ∨ (k = 0 ∧ i = .int .i64 (-4) ∧ v = .string ⟨(qs us j ++ [92, 117, Lx.hx a, Lx.hx b, Lx.hx c, Lx.hx d]).toArray⟩)))
          case atStart => exact ⟨rfl, Or.inl ⟨rfl, rfl, by rw [← str_app]⟩⟩
          case round =>
            obtain ⟨rfl, hrel⟩ := hrel
            rcases hrel with ⟨rfl, rfl, rfl⟩ | ⟨rfl, rfl, rfl⟩ | ⟨rfl, rfl, rfl⟩ | ⟨rfl, rfl, rfl⟩ | ⟨rfl, rfl, rfl⟩
            · go_wp2
              go_roundg 3
              case measure => omega
              case rel =>
                refine ⟨rfl, Or.inr (Or.inl ⟨rfl, rfl, ?_⟩)⟩
                rw [str_app]; simp
            · go_wp2
              go_roundg 2
              case measure => omega
              case rel =>
                refine ⟨rfl, Or.inr (Or.inr (Or.inl ⟨rfl, rfl, ?_⟩))⟩
                rw [str_app]; simp
            · go_wp2
              go_roundg 1
              case measure => omega
              case rel =>
                refine ⟨rfl, Or.inr (Or.inr (Or.inr (Or.inl ⟨rfl, rfl, ?_⟩)))⟩
                rw [str_app]; simp
            · go_wp2
              go_roundg 0
              case measure => omega
              case rel =>
                refine ⟨rfl, Or.inr (Or.inr (Or.inr (Or.inr (⟨rfl, rfl, ?_⟩))))⟩
                rw [str_app]; simp
            · go_wp2
              refine ⟨⟨j + 1, by simp, by omega, ?_, (by first | exact trivial | rfl)⟩, by simp [intOf]; omega⟩
              rw [HQN.out, HQ2.out]
    · have hje : j = n := by omega
      subst hje
      have hql : (qs us j).length ≤ 786433 := by have := HQL.out j; have := HN.out; omega
      have HQE := Lib.hid (show qs us j ++ [34] = Lx.quoteB us by rw [← HN.out]; exact qs_end us)
      go_wp2
      refine bodyPost_ret (v := .string (⟨(qs us j).toArray⟩ ++ ⟨#[34]⟩)) (by simp [results, Tryz.results14]) rfl ⟨?_, HB.out⟩
      rw [← HQE.out, ← str_app]
end Go.Proofs.YtcgibcjpkhefpaaGreatDoor

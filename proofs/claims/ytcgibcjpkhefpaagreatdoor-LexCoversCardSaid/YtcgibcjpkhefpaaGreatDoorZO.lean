/-
  digits.float (104) at any text of bytes below 128 without an underscore, given that ParseFloat answers decimal texts.
  math.Ldexp (143) at any float: some float; digits.rounded (144).
-/
import Derived.Test.YtcgibcjpkhefpaaGreatDoorZK
import Derived.Test.YtcgibcjpkhefpaaGreatDoorZN
import Derived.Lib.ItoaLen
import Derived.Lib.RuneCount
import Derived.Lib.AppendIntMem
import Derived.Deep.CutBlock
import Derived.Deep.DeepCutAuto
namespace Go.Proofs.YtcgibcjpkhefpaaGreatDoor
open Go.RowKit
/-- The table of powers stands in every world above w0. -/
def ItOk (w0 : World) : Prop := ∀ w, Below w0.heap.size w0 w → Lib.TabIs Tryz.prog w "internal/strconv.uint64pow10" .u64 Lib.pow10Tab
/-- Small bytes without an underscore. -/
def Asc (l : List UInt8) : Prop := ∀ b ∈ l, b.toNat < 128 ∧ b.toNat ≠ 95
theorem ext_mem {x : ByteArray} {a b : Nat} {c : UInt8} (h : c ∈ (x.extract a b).data.toList) : c ∈ x.data.toList := by
  rw [ByteArray.data_extract, Array.toList_extract] at h
  exact List.mem_of_mem_drop (List.mem_of_mem_take h)
theorem indexAny_lt (chars : List UInt8) : ∀ l : List UInt8, Lib.indexAny l chars < (l.length : Int) ∨ l = []
  | [] => Or.inr rfl
  | b :: l => by
    left
    have ih := indexAny_lt chars l
    unfold Lib.indexAny
    split
    · simp only [List.length_cons]; omega
    · split
      · simp only [List.length_cons]; omega
      · next h1 h2 =>
        rcases ih with ih | ih
        · simp; omega
        · subst ih; exact absurd rfl h2
theorem indexAny_lt2 (chars l : List UInt8) (h : 0 ≤ Lib.indexAny l chars) : Lib.indexAny l chars < (l.length : Int) := by
  rcases indexAny_lt chars l with h1 | rfl
  · exact h1
  · simp [Lib.indexAny] at h
theorem cut_parts (s sep : List UInt8) (h : Asc s) : ∃ P1 P2 b, Lib.cut s sep = (P1, P2, b) ∧ Asc P1 ∧ Asc P2 ∧ P1.length + P2.length ≤ s.length := by
  unfold Lib.cut
  split
  · refine ⟨_, _, _, rfl, fun c hc => h c (List.mem_of_mem_take hc), fun c hc => h c (List.mem_of_mem_drop hc), ?_⟩
    simp; omega
  · exact ⟨_, _, _, rfl, h, show Asc [] from fun c hc => (by cases hc), by simp⟩
theorem itoa_mid : ∀ i : Fin 801, Asc (Lib.itoa ((i.val : Int) - 400)) := by
  have h : ∀ i : Fin 801, (Lib.itoa ((i.val : Int) - 400)).all (fun b => decide (b.toNat < 128 ∧ b.toNat ≠ 95)) = true := by decide +kernel
  intro i b hb
  have := List.all_eq_true.1 (h i) b hb
  simpa using this
theorem itoa_asc (q : Int) (h1 : -400 ≤ q) (h2 : q ≤ 400) : Asc (Lib.itoa q) := by
  have h := itoa_mid ⟨(q + 400).toNat, by omega⟩
  have e : (((⟨(q + 400).toNat, by omega⟩ : Fin 801).val : Nat) : Int) - 400 = q := by show (((q + 400).toNat : Nat) : Int) - 400 = q; omega
  rw [e] at h
  exact h
theorem numTxt_of (T : ByteArray) (I : List UInt8) (hT : Asc T.data.toList) (hs : T.size ≤ 262144) (hI : Asc I) (hl : I.length ≤ 21) :
    NumTxt (((⟨#[48, 46]⟩ : ByteArray) ++ T) ++ ⟨#[101]⟩ ++ ⟨I.toArray⟩) := by
  obtain ⟨X, hX⟩ : ∃ X, ((⟨#[48, 46]⟩ : ByteArray) ++ T) ++ ⟨#[101]⟩ ++ ⟨I.toArray⟩ = X := ⟨_, rfl⟩
  have hl2 : X.data.toList = [48, 46] ++ T.data.toList ++ [101] ++ I := by rw [← hX]; simp [ByteArray.data_append]
  have hsz : X.size = 2 + T.size + 1 + I.length := by
    rw [show X.size = X.data.toList.length by simp, hl2]
    simp; omega
  rw [hX]
  have at? : ∀ i (h : i < X.size), X.data.toList[i]? = some (X[i]'h) := fun i h => by
    rw [List.getElem?_eq_getElem (by simpa using h)]; simp; rfl
  refine ⟨by omega, by omega, fun h => ?_, fun h => ?_, fun i h => ?_⟩
  · have := at? 0 h
    rw [hl2] at this
    simpa using this.symm
  · have := at? 1 h
    rw [hl2] at this
    simpa using this.symm
  · have hm := List.mem_of_getElem? (at? i h)
    rw [hl2] at hm
    simp only [List.mem_append, List.mem_cons, List.not_mem_nil, or_false] at hm
    rcases hm with (((hm | hm) | hm) | hm) | hm
    · rw [hm]; decide
    · rw [hm]; decide
    · exact (hT _ hm).2
    · rw [hm]; decide
    · exact (hI _ hm).2
theorem conv_none (w : World) : (convert 29 3 (.float .f64 13830554455654793216)).run Tryz.prog w = .ok (.int .i64 (-1)) w := by
  simp [convert, go_sem]
  have h : (FloatKind.f64.decode 13830554455654793216).toInt .zero = some (-1) := by decide +kernel
  unfold Conv.floatToInt
  rw [h]
  rfl
theorem run_mathbits (n : Int) (w : World) : (callFunc 112 #[.int .u64 n]).run Tryz.prog w = .ok (.value (.float .f64 n.toNat)) w := by
  rw [run_callFunc_extern Tryz.func112 (by kernel_rfl) (by kernel_rfl) (by kernel_rfl) (e := Extern.MathFloatBits.float64frombits) (by kernel_rfl)]
  rfl
theorem inf_any (w : World) : Calls Tryz.prog 85 #[.int .i64 1] w fun e w' => (∃ v, e = .returned (.float .f64 v)) ∧ w' = w := by
  have hfb := run_mathbits
  go_enter Tryz.func85, Tryz.ntmps85
  go_wp2
  go_ret
  exact ⟨⟨_, rfl⟩, rfl⟩
def FloPost (w : World) (e : Ending) (w' : World) : Prop := (∃ v, e = .returned (.float .f64 v)) ∧ Below w.heap.size w w'
set_option maxHeartbeats 8000000 in
set_option maxRecDepth 100000 in
theorem float_any (x : ByteArray) (w0 w : World) (hb0 : Below w0.heap.size w0 w) (hPF : PfOk w0) (hIt : ItOk w0) (m : Int) (h1 : 1 < w0.heap.size) (hm : w0.cell? ⟨1, 0, none⟩ = some (.int .i64 m))
    (hx : x.size ≤ 262144) (hA : Asc x.data.toList) : Calls Tryz.prog 104 #[.string x] w (FloPost w) := by
  have HA := Lib.hid hA
  have HB0 := Lib.hid hb0
  have HPF := Lib.hid hPF
  have HIT := Lib.hid hIt
  have HM := Lib.hid hm
  have hlen : x.data.toList.length = x.size := by simp
  obtain ⟨I, hI⟩ : ∃ I, Lib.indexAny x.data.toList (⟨#[101, 69]⟩ : ByteArray).data.toList = I := ⟨_, rfl⟩
  have hI1 : -1 ≤ I := by rw [← hI]; exact Lib.indexAny_ge _ _
  have hI2 : 0 ≤ I → I < x.size := fun h => by rw [← hI, ← hlen]; exact indexAny_lt2 _ _ (by rw [hI]; exact h)
  clear hA hb0 hPF hIt hm
  go_enter Tryz.func104, Tryz.ntmps104
  go_wp2_with fail
  refine (Tryz.strings_IndexAny_laid x ⟨#[101, 69]⟩ _ (by omega) (by decide) (fun j b hb => (HA.out b (List.mem_of_getElem? hb)).1) (fun j b hb => (show ∀ b ∈ [(101 : UInt8), 69], b.toNat < 128 by decide) b (List.mem_of_getElem? hb))).mono ?_
  rintro e w1 ⟨rfl, hb1⟩
  rw [hI]
  have HB1 := Lib.hid hb1
  clear hb1 hI
  go_upto_if 20 with fail
  go_cut [3, 4] (fun a b wc => ∃ M E : ByteArray, a = .string M ∧ b = .string E ∧ Asc M.data.toList ∧ M.size ≤ 262144 ∧ E.size ≤ 262144 ∧ ∃ n, w1.drewN n = wc)
  case first =>
    by_cases h0 : 0 ≤ I
    · obtain ⟨k, rfl⟩ : ∃ k : Nat, I = k := ⟨I.toNat, by omega⟩
      have hk := hI2 h0
      have hk2 : k < x.size := by omega
      go_wp2
      go_quiet (fail)
      go_wp2
      go_meet
      case rel => exact ⟨_, _, rfl, rfl, fun c hc => HA.out c (ext_mem hc), by simp [ByteArray.size_extract]; omega, by simp [ByteArray.size_extract]; omega, _, rfl⟩
    · obtain rfl : I = -1 := by omega
      go_wp2
      go_meet
      case rel => exact ⟨x, _, rfl, rfl, HA.out, hx, by decide, 0, rfl⟩
  case rest =>
    obtain ⟨M, E, rfl, rfl, hM, hMs, hEs, n0, rfl⟩ := hcut
    have hMl : M.data.toList.length = M.size := by simp
    obtain ⟨P1, P2, pb, hcut, hP1, hP2, hPl⟩ := cut_parts M.data.toList (⟨#[46]⟩ : ByteArray).data.toList hM
    have HCUT := Lib.hid hcut
    clear hcut hM
    go_wp2_with fail
    refine (Tryz.strings_Cut M ⟨#[46]⟩ m _ (by omega) (by have hb := HB0.out.trans (HB1.out.mono HB0.out.size); show w1.cell? ⟨1, 0, none⟩ = _; rw [hb.cell (p := ⟨1, 0, none⟩) h1]; exact HM.out)).mono ?_
    rintro e w2 ⟨rfl, n1, rfl⟩
    rw [HCUT.out]
    obtain ⟨T, hT⟩ : ∃ T, (⟨(Lib.trimLeftB ((⟨P1.toArray⟩ : ByteArray) ++ ⟨P2.toArray⟩).data.toList 48).toArray⟩ : ByteArray) = T := ⟨_, rfl⟩
    have hTl : T.data.toList = (P1 ++ P2).dropWhile (· == 48) := by rw [← hT]; simp [Lib.trimLeftB, ByteArray.data_append]
    have hTA : Asc T.data.toList := fun c hc => by
      rw [hTl] at hc
      have := (List.dropWhile_suffix _).subset hc
      rcases List.mem_append.1 this with h | h
      · exact hP1 c h
      · exact hP2 c h
    have hTs : T.size ≤ 262144 := by
      have h := (List.dropWhile_suffix (fun c : UInt8 => c == 48) (l := P1 ++ P2)).length_le
      rw [← hTl] at h
      simp at h
      have : T.size = T.data.toList.length := by simp
      simp at this
      omega
    have HTA := Lib.hid hTA
    clear hTl hTA hP1 hP2
    have hP2s : (⟨P2.toArray⟩ : ByteArray).size = P2.length := by simp [ByteArray.size]
    go_wp2_with fail
    refine (Tryz.strings_TrimLeft_one _ 48 (by decide) _).mono ?_
    rintro e w3 ⟨rfl, rfl⟩
    rw [hT]
    go_wp2_with fail
    refine (signed_any E _).mono ?_
    rintro e w3 ⟨⟨u, hu, he⟩, n2, rfl⟩
    obtain ⟨sv, S, hcv, rfl⟩ : ∃ (sv : Nat) (S : Int), (∀ w, (convert 29 3 (.float .f64 sv)).run Tryz.prog w = .ok (.int .i64 S) w) ∧ e = .returned (.tuple #[.float .f64 sv, .string u]) := by
      rcases he with he | he
      · exact ⟨_, 1, conv_one, he⟩
      · exact ⟨_, -1, conv_none, he⟩
    clear he
    have HW := Lib.hid (HB1.out.trans (((Kf.refl (fun _ _ => False) w1).drewN (n0 + n1 + n2)).below HB1.out.size (fun _ _ h => h.elim)))
    go_wp2
    have hWs : (w1.drewN (n0 + n1 + n2)).heap.size = w1.heap.size := rfl
    generalize w1.drewN (n0 + n1 + n2) = W at *
    have hit0 : (W.iter u 0).heap[w1.heap.size]? = some (.stringIter u 0) := by rw [← hWs]; exact World.iter_heap W u 0
    go_loopw [10] (fun x wr => ∃ (p : Int) (q : Nat), x = .int .i64 p ∧ wr.heap[w1.heap.size]? = some (.stringIter u q) ∧ Below W.heap.size W wr) (fun _ wr => u.size - wr.iterPos w1.heap.size)
    case atStart => exact ⟨0, 0, rfl, hit0, (Below.refl _ _).alloc (Nat.le_refl _) _⟩
    case round =>
      obtain ⟨p, q, rfl, hit, hB⟩ := hrel
      have HMS := Lib.hid (show wr.iterPos w1.heap.size = q by simp only [World.iterPos, hit])
      by_cases hlt : q < u.size
      · have hnx : ∀ ty, (Instr.next (.pointer (some ⟨w1.heap.size, 0, none⟩)) true ty).run Tryz.prog wr = _ := fun ty => Lib.run_next_any_at wr w1.heap.size u q ty hit hlt
        have hdp := Lib.decode_width_pos u q hlt
        obtain ⟨c, hc⟩ : ∃ c, (Utf8.decode u q).1 = c := ⟨_, rfl⟩
        obtain ⟨d, hd⟩ : ∃ d, (Utf8.decode u q).2 = d := ⟨_, rfl⟩
        rw [hc, hd] at hnx
        rw [hd] at hdp
        have HI := Lib.hid (Lib.iterAt_heap wr w1.heap.size u q (q + d) hit)
        have HBN := Lib.hid (((Kf.of_below (fun _ _ => False) hB).iterNew (k := w1.heap.size) (by omega) u (q + d)).below (Nat.le_refl _) (fun _ _ h => h.elim))
        clear hit hB hc hd
        generalize wr.iterAt w1.heap.size u (q + d) = W2 at *
        go_wp2_with fail
        go_roundw
        case rel => exact ⟨_, _, rfl, HI.out, HBN.out⟩
        case measure =>
          rw [HMS.out]
          simp only [World.iterPos, HI.out]
          omega
      · have hnx : ∀ ty, (Instr.next (.pointer (some ⟨w1.heap.size, 0, none⟩)) true ty).run Tryz.prog wr = _ := fun ty => Lib.run_next_end_at wr w1.heap.size u q ty hit hlt
        have HWR := Lib.hid (HW.out.trans (hB.mono HW.out.size))
        clear hit hB
        go_upto_region 13 with fail
        go_cut [10] (fun x wc => ∃ p : Int, x = .int .i64 p ∧ wr = wc)
        case first =>
          go_wp2
          go_meet
          case rel => exact ⟨_, rfl, rfl⟩
        case rest =>
          obtain ⟨z, rfl, rfl⟩ := hcut
          have HWA := Lib.hid (HB0.out.trans (HWR.out.mono HB0.out.size))
          clear hcv
          by_cases hT0 : T.size = 0
          · have hTe : T = ⟨#[]⟩ := by
              rcases T with ⟨⟨l⟩⟩
              cases l with
              | nil => rfl
              | cons a r => simp [ByteArray.size] at hT0
            subst hTe
            go_wp2
            go_ret
            exact ⟨⟨_, rfl⟩, HWR.out⟩
          have hne1 : T.toList.isEmpty = false := toList_emp (by omega)
          have hne2 : decide (T = ⟨#[]⟩) = false := by
            simp only [decide_eq_false_iff_not]
            rintro rfl
            exact hT0 rfl
          have hne3 : decide (T = ByteArray.empty) = false := hne2
          have hne4 : (T.toList == []) = false := by
            cases h : T.toList with
            | nil => rw [h] at hne1; cases hne1
            | cons a r => rfl
          by_cases hz1 : z < -400
          · have b1 : decide (z < -400) = true := by simp; omega
            go_wp2
            go_ret
            exact ⟨⟨_, rfl⟩, HWR.out⟩
          have b1 : decide (z < -400) = false := by simp; omega
          by_cases hz2 : 400 < z
          · have b2 : decide (400 < z) = true := by simp; omega
            go_wp2_with fail
            refine (inf_any _).mono ?_
            rintro e w4 ⟨⟨v, rfl⟩, rfl⟩
            go_wp2
            go_ret
            exact ⟨⟨_, rfl⟩, HWR.out⟩
          have b2 : decide (400 < z) = false := by simp; omega
          have HIA := Lib.hid (itoa_asc z (by omega) (by omega))
          have hIl := Lib.itoa_length_le z (by omega) (by omega)
          have hIs : (⟨(Lib.itoa z).toArray⟩ : ByteArray).size = (Lib.itoa z).length := by simp [ByteArray.size]
          go_wp2_with fail
          refine (Tryz.strconv_Itoa z (by omega) (by omega) _ (HIT.out _ HWA.out)).mono ?_
          rintro e w4 ⟨rfl, k4, os, rfl⟩
          have HB4 := Lib.hid (HWR.out.trans (Lib.below_grow w.heap.size wr HWR.out.size k4 os))
          go_wp2_with fail
          refine (HPF.out _ _ (numTxt_of T _ HTA.out hTs HIA.out hIl) (HB0.out.trans (HB4.out.mono HB0.out.size))).mono ?_
          rintro e w5 ⟨⟨v, x5, rfl⟩, hb5⟩
          go_wp2
          go_ret
          exact ⟨⟨_, rfl⟩, HB4.out.trans (hb5.mono HB4.out.size)⟩
end Go.Proofs.YtcgibcjpkhefpaaGreatDoor
namespace Go.Proofs.YtcgibcjpkhefpaaGreatDoor
open Go.RowKit
theorem run_bits (v : Nat) (w : World) : (callFunc 182 #[.float .f64 v]).run Tryz.prog w = .ok (.value (.int .u64 v)) w := by
  rw [run_callFunc_extern Tryz.func182 (by kernel_rfl) (by kernel_rfl) (by kernel_rfl) (e := Extern.MathFloatBits.float64bits) (by kernel_rfl)]
  rfl
theorem fmul_one (t : TypeId) (x y : Nat) (w : World) : ∃ r k, (binOp .mul t (.float .f64 x) (.float .f64 y)).run Tryz.prog w = .ok (.float .f64 r) (w.drewN k) := by
  cases h : FloatKind.f64.format.mul x y with
  | some r => exact ⟨r, 0, by simp [binOp, Op.floatArith, h]; rfl⟩
  | none =>
    by_cases hf : (Question.nanBits .f64 x y).forced
    · exact ⟨0, 0, by simp [binOp, Op.floatArith, h, hf]; rfl⟩
    · exact ⟨_, 1, by simp [binOp, Op.floatArith, h, hf]; exact ⟨rfl, rfl⟩⟩
/-- What a product is, whatever it is. -/
theorem fmul_any : ∃ (R K : TypeId → Nat → Nat → World → Nat), ∀ t x y w, (binOp .mul t (.float .f64 x) (.float .f64 y)).run Tryz.prog w = .ok (.float .f64 (R t x y w)) (w.drewN (K t x y w)) :=
  ⟨fun t x y w => (fmul_one t x y w).choose, fun t x y w => (fmul_one t x y w).choose_spec.choose, fun t x y w => (fmul_one t x y w).choose_spec.choose_spec⟩
def SomeFl (w : World) (e : Ending) (w' : World) : Prop := (∃ v, e = .returned (.float .f64 v)) ∧ ∃ k, w' = w.drewN k
theorem abs_any (v : Nat) (w : World) : Calls Tryz.prog 198 #[.float .f64 v] w fun e w' => (∃ u, e = .returned (.float .f64 u)) ∧ w' = w := by
  have hfb := run_mathbits
  have hb := run_bits
  go_enter Tryz.func198, Tryz.ntmps198
  go_wp2
  go_ret
  exact ⟨⟨_, rfl⟩, rfl⟩
theorem copysign_any (v : Nat) (w : World) : Calls Tryz.prog 183 #[.float .f64 0, .float .f64 v] w fun e w' => (∃ u, e = .returned (.float .f64 u)) ∧ w' = w := by
  have hfb := run_mathbits
  have hb := run_bits
  go_enter Tryz.func183, Tryz.ntmps183
  go_wp2
  go_ret
  exact ⟨⟨_, rfl⟩, rfl⟩
theorem isnan_any (v : Nat) (w : World) : Calls Tryz.prog 180 #[.float .f64 v] w fun e w' => (∃ b, e = .returned (.bool b)) ∧ w' = w := by
  go_enter Tryz.func180, Tryz.ntmps180
  go_wp2
  go_ret
  exact ⟨⟨_, rfl⟩, rfl⟩
theorem isinf_any (v : Nat) (w : World) : Calls Tryz.prog 179 #[.float .f64 v, .int .i64 0] w fun e w' => (∃ b, e = .returned (.bool b)) ∧ w' = w := by
  go_enter Tryz.func179, Tryz.ntmps179
  go_wp2_with fail
  refine (abs_any v _).mono ?_
  rintro e w1 ⟨⟨u, rfl⟩, rfl⟩
  go_wp2
  go_ret
  exact ⟨⟨_, rfl⟩, rfl⟩
theorem inf2_any (s : Int) (w : World) : Calls Tryz.prog 85 #[.int .i64 s] w fun e w' => (∃ v, e = .returned (.float .f64 v)) ∧ w' = w := by
  have hfb := run_mathbits
  go_enter Tryz.func85, Tryz.ntmps85
  go_wp2
  all_goals
    go_ret
    exact ⟨⟨_, rfl⟩, rfl⟩
theorem norm_any (v : Nat) (w : World) : Calls Tryz.prog 181 #[.float .f64 v] w fun e w' => (∃ u x, e = .returned (.tuple #[.float .f64 u, .int .i64 x])) ∧ ∃ k, w' = w.drewN k := by
  obtain ⟨R, K, hmul⟩ := fmul_any
  go_enter Tryz.func181, Tryz.ntmps181
  go_wp2_with fail
  refine (abs_any v _).mono ?_
  rintro e w1 ⟨⟨u, rfl⟩, rfl⟩
  go_wp2
  all_goals
    first
    | exact bodyPost_ret (v := .tuple #[.float .f64 v, .int .i64 0]) (by simp [results, Tryz.results181]) rfl ⟨⟨_, _, rfl⟩, 0, rfl⟩
    | exact bodyPost_ret (v := .tuple #[.float .f64 _, .int .i64 (-52)]) (by simp [results, Tryz.results181]; rfl) rfl ⟨⟨_, _, rfl⟩, _, rfl⟩
set_option maxHeartbeats 4000000 in
theorem ldexp_any (v : Nat) (x : Int) (w : World) : Calls Tryz.prog 161 #[.float .f64 v, .int .i64 x] w (SomeFl w) := by
  obtain ⟨R, K, hmul⟩ := fmul_any
  have hfb := run_mathbits
  have hb := run_bits
  go_enter Tryz.func161, Tryz.ntmps161
  generalize hQ : (FloatKind.f64.format.order v 0 == some .eq) = Q at *
  go_wp2_with fail
  · go_ret
    exact ⟨⟨_, rfl⟩, 0, rfl⟩
  refine (isinf_any v _).mono ?_
  rintro e w1 ⟨⟨b, rfl⟩, rfl⟩
  cases b
  case true =>
    go_wp2
    go_ret
    exact ⟨⟨_, rfl⟩, 0, rfl⟩
  go_wp2_with fail
  refine (isnan_any v _).mono ?_
  rintro e w1 ⟨⟨b, rfl⟩, rfl⟩
  cases b
  case true =>
    go_wp2
    go_ret
    exact ⟨⟨_, rfl⟩, 0, rfl⟩
  go_wp2_with fail
  refine (norm_any v _).mono ?_
  rintro e w1 ⟨⟨u, y, rfl⟩, k, rfl⟩
  go_wp2_with fail
  all_goals
    first
    | go_ret
      exact ⟨⟨_, rfl⟩, _, rfl⟩
    | (first
      | refine (copysign_any u _).mono ?_
      | refine (inf2_any _ _).mono ?_)
      rintro e w2 ⟨⟨z, rfl⟩, rfl⟩
      go_wp2
      go_ret
      exact ⟨⟨_, rfl⟩, _, rfl⟩
set_option maxHeartbeats 4000000 in
theorem Ldexp_any (v : Nat) (x : Int) (w : World) : Calls Tryz.prog 143 #[.float .f64 v, .int .i64 x] w (SomeFl w) := by
  go_enter Tryz.func143, Tryz.ntmps143
  go_wp2_with fail
  refine (ldexp_any v x _).mono ?_
  rintro e w1 ⟨⟨u, rfl⟩, k, rfl⟩
  go_wp2
  go_ret
  exact ⟨⟨_, rfl⟩, _, rfl⟩
set_option maxHeartbeats 4000000 in
set_option maxRecDepth 100000 in
theorem rounded_any (m : Int) (w : World) : Calls Tryz.prog 144 #[.int .u64 m] w (SomeFl w) := by
  go_enter Tryz.func144, Tryz.ntmps144
  go_wp2_with fail
  all_goals
    refine (Ldexp_any _ _ _).mono ?_
    rintro e w1 ⟨⟨u, rfl⟩, k, rfl⟩
    go_wp2
    go_ret
    exact ⟨⟨_, rfl⟩, _, rfl⟩
end Go.Proofs.YtcgibcjpkhefpaaGreatDoor

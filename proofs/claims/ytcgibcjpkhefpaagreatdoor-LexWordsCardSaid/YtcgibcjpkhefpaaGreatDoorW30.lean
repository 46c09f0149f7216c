/-
  A part of the proof: the reference's list.
-/
import Derived.Test.YtcgibcjpkhefpaaGreatDoorW29
namespace Go.Proofs.YtcgibcjpkhefpaaGreatDoor
open Go.RowKit
def splitGo : List UInt8 → List UInt8 → List (List UInt8) → List (List UInt8)
  | [], w, out => if w = [] then out else out ++ [w]
  | c :: r, w, out => if c = 32 then splitGo r [] (if w = [] then out else out ++ [w]) else splitGo r (w ++ [c]) out
theorem enc_ascii : ∀ c : UInt8, c.toNat < 128 → Utf8.encode (c.toNat : Int) = ⟨#[c]⟩ := u8_all (by decide +kernel)
theorem conv_byte (c : UInt8) (h : c.toNat < 128) (w : World) : (convert 5 9 (.int .u8 (c.toNat : Int))).run Tryz.prog w = .ok (.string ⟨#[c]⟩) w := by
  rw [run_convert_int_string w 5 9 .u8 _ (by rw [Tryz.underlying5]; rfl) Tryz.underlying9, enc_ascii c h]
theorem info9 : (Tryz.prog.info? 9).map (fun i => (i.zero, i.size, i.bytes)) = some (some (.string ⟨#[]⟩), 1, 16) := by kernel_rfl
set_option maxHeartbeats 2000000 in
set_option maxRecDepth 100000 in
theorem list_any (t : ByteArray) (w : World) (ht : t.size ≤ 262144) (ha : ∀ b ∈ t.data.toList, b.toNat < 128) :
    Calls Tryz.prog 31 #[.string t] w fun e w' => ∃ v, e = .returned v ∧ w'.ownsRow w.heap.size 9 1 v (splitGo t.data.toList [] []).length ((splitGo t.data.toList [] []).map fun l => Value.string ⟨l.toArray⟩) ∧ Below w.heap.size w w' := by
  go_enter Tryz.func31, Tryz.ntmps31
  go_wp2
  go_loopw [3, 4, 5] (fun v x i wr => ∃ (j : Nat) (wd : List UInt8) (out : List (List UInt8)), x = .string ⟨wd.toArray⟩ ∧ i = .int .i64 j ∧ j ≤ t.size + 1 ∧ wd.length ≤ j ∧ out.length ≤ j ∧ wr.ownsRow w.heap.size 9 1 v out.length (out.map fun l => Value.string ⟨l.toArray⟩) ∧ Below w.heap.size w wr ∧ ((j ≤ t.size ∧ splitGo (t.data.toList.drop j) wd out = splitGo t.data.toList [] []) ∨ (j = t.size + 1 ∧ out = splitGo t.data.toList [] []))) (fun _ _ i _ => t.size + 1 - (intOf i).toNat)
  case atStart => exact ⟨0, [], [], rfl, rfl, by omega, by simp, by simp, ⟨by simp, Or.inl ⟨rfl, rfl⟩⟩, Below.refl _ _, Or.inl ⟨by omega, by simp⟩⟩
  case round =>
    obtain ⟨j, wd, out, rfl, rfl, hj, hwd, hol, hown, hB, hr⟩ := hrel
    have HR := Lib.hid hr
    have HO := Lib.hid hown
    have HB := Lib.hid hB
    clear hr hown hB
    by_cases hlt : j < t.size
    · have HEL := Lib.hid (show (t[j]'hlt) = t.data.toList[j]'(by simpa using hlt) by simp; rfl)
      have hasc : (t[j]'hlt).toNat < 128 := by rw [HEL.out]; exact ha _ (List.getElem_mem _)
      cases hc : ((t[j]'hlt).toNat : Int) == 32 with
      | true =>
        have HE := Lib.hid (show t.data.toList[j]'(by simpa using hlt) = 32 by
          rw [← HEL.out]
          simp only [beq_iff_eq] at hc
          exact UInt8.toNat_inj.1 (by simpa using (by omega : (t[j]'hlt).toNat = 32)))
        by_cases hw : wd = []
        · subst hw
          go_wp2
          refine ⟨⟨j + 1, [], out, rfl, by simp, by omega, by simp, by omega, HO.out, HB.out, Or.inl ⟨by omega, ?_⟩⟩, by simp [intOf]; omega⟩
          rcases HR.out with ⟨_, h⟩ | ⟨h, _⟩
          · rw [← h, List.drop_eq_getElem_cons (show j < t.data.toList.length by simpa using hlt), splitGo, if_pos HE.out, if_pos rfl]
          · omega
        · have h1 : (wd == ([] : List UInt8)) = false := by simpa using hw
          obtain ⟨i0, hi, hz0, hz1, hz2⟩ := info_parts info9
          have HI := Lib.hid (And.intro hi (And.intro hz0 (And.intro hz1 hz2)))
          clear hi hz0 hz1 hz2
          go_wp2_with (at_builtin; refine wpList_append_own _ rfl _ _ 38 rfl w.heap.size 9 i0 (.string ⟨#[]⟩) 1 16 Tryz.underlying38 HI.out.1 HI.out.2.1 HI.out.2.2.1 HI.out.2.2.2 rfl (by decide) _ _ _ rfl (HO.out.alloc _) ⟨wr.heap.size, 0, none⟩ 1 1 [.string ⟨wd.toArray⟩] rfl rfl ?c1 ?c2 ?c3 ?c4 ?c5 ?_)
          case c1 =>
            intro q u hq
            match q, hq with
            | 0, hq => simp at hq; subst hq; exact cell_new0 rfl
          case c2 => intro u hu; simp at hu; subst hu; rfl
          case c3 => unfold maxLen; omega
          case c4 => omega
          case c5 => have := HB.out.size; simp; omega
          intro v' w2 hown' hgrow _
          have HX := Lib.hid hown'
          have HB2 := Lib.hid (show Below w.heap.size w w2 from (HB.out.alloc (by have := HB.out.size; omega) _).trans ((kf_grown hgrow).below (by have := HB.out.size; simp; omega) (fun k o h => (HO.out.lt k h.1.symm).1)))
          clear hown' hgrow
          go_wp2
          refine ⟨⟨j + 1, [], out ++ [wd], rfl, by simp, by omega, by simp, by simp; omega, by simpa using HX.out, HB2.out, Or.inl ⟨by omega, ?_⟩⟩, by simp [intOf]; omega⟩
          rcases HR.out with ⟨_, h⟩ | ⟨h, _⟩
          · rw [← h, List.drop_eq_getElem_cons (show j < t.data.toList.length by simpa using hlt), splitGo, if_pos HE.out, if_neg hw]
          · omega
      | false =>
        have hcv := conv_byte (t[j]'hlt) hasc
        clear hasc
        have HE := Lib.hid (show ¬ t.data.toList[j]'(by simpa using hlt) = 32 by
          intro e
          rw [← HEL.out] at e
          rw [e] at hc
          simp at hc)
        go_wp2
        refine ⟨⟨j + 1, wd ++ [t[j]'hlt], out, ?_, by simp, by omega, by simp; omega, by omega, HO.out, HB.out, Or.inl ⟨by omega, ?_⟩⟩, by simp [intOf]; omega⟩
        · congr 1
        · rcases HR.out with ⟨_, h⟩ | ⟨h, _⟩
          · rw [← h, List.drop_eq_getElem_cons (show j < t.data.toList.length by simpa using hlt), splitGo, if_neg HE.out, HEL.out]
          · omega
    · rcases HR.out with ⟨hjs, h⟩ | ⟨hjs, h⟩
      · have HEND := Lib.hid (show splitGo [] wd out = splitGo t.data.toList [] [] by rw [← h, List.drop_eq_nil_of_le (by simp; omega)])
        clear h
        by_cases hw : wd = []
        · subst hw
          go_wp2
          exact ⟨⟨j + 1, [], out, rfl, by simp, by omega, by simp, by omega, HO.out, HB.out, Or.inr ⟨by omega, HEND.out⟩⟩, by simp [intOf]; omega⟩
        · have h1 : (wd == ([] : List UInt8)) = false := by simpa using hw
          obtain ⟨i0, hi, hz0, hz1, hz2⟩ := info_parts info9
          have HI := Lib.hid (And.intro hi (And.intro hz0 (And.intro hz1 hz2)))
          clear hi hz0 hz1 hz2
          go_wp2_with (at_builtin; refine wpList_append_own _ rfl _ _ 38 rfl w.heap.size 9 i0 (.string ⟨#[]⟩) 1 16 Tryz.underlying38 HI.out.1 HI.out.2.1 HI.out.2.2.1 HI.out.2.2.2 rfl (by decide) _ _ _ rfl (HO.out.alloc _) ⟨wr.heap.size, 0, none⟩ 1 1 [.string ⟨wd.toArray⟩] rfl rfl ?c1 ?c2 ?c3 ?c4 ?c5 ?_)
          case c1 =>
            intro q u hq
            match q, hq with
            | 0, hq => simp at hq; subst hq; exact cell_new0 rfl
          case c2 => intro u hu; simp at hu; subst hu; rfl
          case c3 => unfold maxLen; omega
          case c4 => omega
          case c5 => have := HB.out.size; simp; omega
          intro v' w2 hown' hgrow _
          have HX := Lib.hid hown'
          have HB2 := Lib.hid (show Below w.heap.size w w2 from (HB.out.alloc (by have := HB.out.size; omega) _).trans ((kf_grown hgrow).below (by have := HB.out.size; simp; omega) (fun k o h => (HO.out.lt k h.1.symm).1)))
          clear hown' hgrow
          go_wp2
          exact ⟨⟨j + 1, [], out ++ [wd], rfl, by simp, by omega, by simp, by simp; omega, by simpa using HX.out, HB2.out, Or.inr ⟨by omega, by rw [← HEND.out, splitGo, if_neg hw]⟩⟩, by simp [intOf]; omega⟩
      · subst h
        go_wp2
        exact bodyPost_ret (v := _) (by simp [results, Tryz.results31]) rfl ⟨_, rfl, HO.out, HB.out⟩
end Go.Proofs.YtcgibcjpkhefpaaGreatDoor

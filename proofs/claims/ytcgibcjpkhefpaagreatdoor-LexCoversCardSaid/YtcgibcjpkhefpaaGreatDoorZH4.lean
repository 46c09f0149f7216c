/-
  LexCovers: of any text that lex.Scan reads, the tokens stand in order, none within another, the last one at the text's end, and what lies ahead of each is skipped whole by the reference's scanner. Conditions: the row's own (the listed package-level variables hold what the program's text lays, tied by the card).
-/
import Derived.Test.YtcgibcjpkhefpaaGreatDoorZC2
import Derived.Test.YtcgibcjpkhefpaaGreatDoorZR
import Derived.Test.YtcgibcjpkhefpaaGreatDoorZR2
import Derived.Test.YtcgibcjpkhefpaaGreatDoorTie
import Derived.Test.YtcgibcjpkhefpaaGreatDoorCards
import Derived.SevenTiedAt
namespace Go.Proofs.YtcgibcjpkhefpaaGreatDoor
open Go.ChangeShapes Go.WideShapes Go.ChangeAt Go.RowKit
open Go.ChangeMaps (open_string shut_string)
theorem covers_law (s : ByteArray) (w : World) (hR : ReadyC w) :
    Calls Tryz.prog 4 #[.string s] w fun e w' => e = .returned (.bool true) ∧ Below w.heap.size w w' :=
  covers_law0 s w hR (fun hs => cmC_of (by omega) w hR.rd.max)
set_option maxRecDepth 100000 in
theorem covers_lifted (os : Os) (started : os.Started) (H : Type) (enc : TypeId × Value → H) :
    ReturnsInHanded {} Tryz.checked os 4 .any (fun w args => (Rows.lexCoversSpec.pre enc Tryz.prog Tryz.f4 Rows.lexCoversRow.domain false w args ∧ laidMetH Tryz.prog Rows.lexCoversRow.laid w) ∧ sizedMet enc Tryz.prog Tryz.f4 (OpenSpec.ofChange Rows.lexCoversSpec) false w args)
      (Rows.lexCoversSpec.post enc Tryz.prog Tryz.f4 false true false false) := by
  refine handed_and_shaped (C := Tryz.checked) (X := fun w _ => laidMetH Tryz.prog Rows.lexCoversRow.laid w) (fun _ _ _ hh h => h.of_heap hh) own_knob started (by kernel_rfl) Tryz.func4
    (ChangeSpec.witness_shaped (enc := enc) (C := Tryz.checked) (os := os) (X := fun w _ => laidMetH Tryz.prog Rows.lexCoversRow.laid w) false (World.laidAll Tryz.prog os Rows.lexCoversRow.laid) #[.string ⟨#[]⟩] 8 (World.laidAll_os _ _ _)
      (World.shaped_of_ZipB (by kernel_rfl) (by kernel_rfl)) (by kernel_rfl) (by kernel_rfl) (by kernel_rfl)
      (by rw [MakeChecks.laidMetH_plain _ _ _ (by kernel_rfl)]; exact laidMet_laidAll _ (by kernel_rfl) (by kernel_rfl))) ?_
  intro W base args ds gs before hval0 hW hL hS
  have hval : ∀ (j : Nat) t v, Tryz.f4.params[j]? = some t → args[j]? = some v → Value.okWide Tryz.prog W .any base t v := hval0
  have hW' := hW
  obtain ⟨p, q, hA0, hV, rfl, _, _⟩ := hW
  have hA : DataW.TrodAll enc Tryz.prog W 0 (fun _ => true) true Tryz.f4.params.toList args.toList ds p := hA0
  rw [Tryz.params4] at hA hval
  obtain ⟨v0, d0, rfl, rfl, h0⟩ := trodAll_one hA
  obtain ⟨rfl, rfl⟩ := trodVars_none hV
  obtain ⟨s, rfl, rfl, rfl, ws⟩ := open_string Tryz.underlying9 (hval 0 9 v0 rfl rfl) h0
  refine (covers_law s W (readyC_of hS hL)).mono fun e W' ⟨he, hB⟩ => ?_
  subst he
  exact ⟨_, rfl, _, _, _, [], [], [], hW', trodAll_mk1 (shut_bool Tryz.underlying4 _), trodAll_mk1 (shut_string Tryz.underlying9 ws), rfl, hB.frame _, fun h => by cases h⟩
theorem covers_said : Rows.LexCoversSaid :=
  OpenClaim.holds_of_wide 4 Tryz.f4 rfl rfl rfl rfl rfl rfl rfl ⟨rfl, rfl, rfl, rfl, rfl⟩ rfl rfl rfl rfl rfl (by kernel_rfl) Tryz.func4 (by kernel_rfl)
    (of_decide_eq_true (by kernel_rfl)) (by unfold Func.isWrapper; first | (rw [if_pos (by decide +kernel)]; kernel_rfl) | (rw [if_neg (by decide +kernel)]; exact ⟨rfl, rfl⟩))
    (fun os started H enc _ => covers_lifted os started H enc)
theorem covers_card : Rows.LexCoversCardSaid :=
  Claim7.holds_tied_plain_at .later [] Rows.lexCoversCard.laidKinds true Rows.lexCoversCard.stood.harness true covers_said (fun _ h => by cases h) (by kernel_rfl) (fun _ h => by cases h) lexCovers_row_tie rfl ⟨rfl, rfl⟩ (by kernel_rfl) rfl
    (fun f fn hf hfn => by
      obtain rfl : f = 4 := Option.some.inj ((show Tryz.prog.funcNamed "lintel/lintellaw05.LexCovers" = some 4 by kernel_rfl).symm.trans hf) |>.symm
      obtain rfl : fn = Tryz.f4 := (Option.some.inj (Tryz.func4.symm.trans hfn)).symm
      exact ⟨by kernel_rfl, fun j t ht => by
        rw [Tryz.params4] at ht
        have hm : t ∈ [9] := by simpa using Array.mem_of_getElem? ht
        have hall : ([9].all fun u => !Tryz.prog.wantsStandIn u) = true := by kernel_rfl
        exact (show Tryz.prog.wantsStandIn t = false by simpa using List.all_eq_true.1 hall t hm)⟩)
    (by kernel_rfl)
#print axioms covers_card
end Go.Proofs.YtcgibcjpkhefpaaGreatDoor

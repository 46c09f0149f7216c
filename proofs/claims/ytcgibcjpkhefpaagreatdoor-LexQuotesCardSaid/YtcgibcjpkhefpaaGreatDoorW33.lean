/-
  The scanner at a text without comments, the states checked by a reckoning: what next is asked at, in a finite list.
-/
import Derived.Test.YtcgibcjpkhefpaaGreatDoorW26
namespace Go.Proofs.YtcgibcjpkhefpaaGreatDoor
open Go.RowKit
section
variable {b g : Nat} {s : ByteArray} {lv ov : Value} {p : Nat} {ln : Bool} {opn : List Int}
set_option maxHeartbeats 1000000 in
set_option maxRecDepth 100000 in
theorem comment_no (w : World) (hs : s.size ≤ 262144) (hp : p ≤ s.size) (h : Scn b s lv p ln ov opn w) (h1 : Lx.pre [47, 47] s.data.toList p = false) (h2 : Lx.pre [47, 42] s.data.toList p = false) :
    Calls Tryz.prog 77 #[.pointer (some ⟨b, 0, none⟩)] w fun e w' => e = .returned (.bool false) ∧ ∃ k, w' = w.drewN k := by
  have c1 := h.c1
  have H1 := Lib.hid h1
  have H2 := Lib.hid h2
  have HS := Lib.hid h
  clear h1 h2 h
  go_enter Tryz.func77, Tryz.ntmps77
  go_wp2_with fail
  refine (has_any _ _ (by omega) hp HS.out).mono ?_
  rintro e w1 ⟨rfl, k, rfl⟩
  rw [show Lx.pre (⟨#[47, 47]⟩ : ByteArray).data.toList s.data.toList p = false from H1.out]
  go_wp2_with fail
  refine (has_any _ _ (by omega) hp (HS.out.drewN k)).mono ?_
  rintro e w1 ⟨rfl, k2, rfl⟩
  rw [show Lx.pre (⟨#[47, 42]⟩ : ByteArray).data.toList s.data.toList p = false from H2.out]
  go_wp2
  exact bodyPost_ret (v := .bool false) (by simp [results, Tryz.results77]) rfl ⟨rfl, _, rfl⟩
end
/-- No comment at any of the places. -/
def noCm (l : List UInt8) (vs : List Nat) : Bool := vs.all fun p => !Lx.pre [47, 47] l p && !Lx.pre [47, 42] l p
theorem noCm_at {l : List UInt8} {vs : List Nat} (h : noCm l vs = true) {p : Nat} (hp : p ∈ vs) : Lx.pre [47, 47] l p = false ∧ Lx.pre [47, 42] l p = false := by
  have := List.all_eq_true.1 h p hp
  simpa using this
theorem cm_eq {E : Lx.Env} {l : List UInt8} {p : Nat} {ln : Bool} (h : Lx.pre [47, 47] l p = false ∧ Lx.pre [47, 42] l p = false) : Lx.comment E l p ln = .no := by
  unfold Lx.comment
  simp [h.1, h.2]
theorem cmOk_of (E : Lx.Env) (s : ByteArray) (vs : List Nat) (h : noCm s.data.toList vs = true) (hs : s.size ≤ 262144) : CmOk E s (· ∈ vs) := by
  intro b lv ov p ln opn w hv hp hS
  have hn := noCm_at h hv
  refine (comment_no w hs hp hS hn.1 hn.2).mono ?_
  rintro e w1 ⟨rfl, k, rfl⟩
  refine ⟨(Kf.refl _ _).drewN k, ?_⟩
  rw [cm_eq hn]
  exact ⟨rfl, hS.drewN k⟩
def vOk (l : List UInt8) (vs : List Nat) : Bool := vs.all fun p => match Lx.nl l p with
  | some q => vs.contains q
  | none => match Lx.bl l p with
    | some q => vs.contains q
    | none => true
theorem vSkip_of (E : Lx.Env) (l : List UInt8) (vs : List Nat) (h : vOk l vs = true) (hc : noCm l vs = true) : VSkip E l (· ∈ vs) := by
  have h : ∀ p ∈ vs, _ := List.all_eq_true.1 h
  refine ⟨fun p q hp hn => ?_, fun p q hp hn hb => ?_, fun p q ln ln' hp hn hb hcm => ?_⟩
  · have := h p hp
    simp only [hn] at this
    simpa using this
  · have := h p hp
    simp only [hn, hb] at this
    simpa using this
  · rw [cm_eq (noCm_at hc hp)] at hcm
    cases hcm
def rOk (E : Lx.Env) (l : List UInt8) (vs : List Nat) (rs : List (Nat × List Int)) : Bool := rs.all fun x =>
  vs.contains x.1 && decide (x.1 ≤ l.length) && decide (x.2.length ≤ x.1) && (x.2.all fun m => decide (0 ≤ m) && decide (m ≤ x.1)) &&
  (match Lx.skip E l (l.length - x.1) x.1 false with
    | .ok (q, _) => vs.contains q && decide (x.1 ≤ q) && decide (q ≤ l.length)
    | .error _ => true) &&
  (match Lx.next E l x.1 x.2 with
    | .ok (t, r, opn') => t.tk.kind == 0 || (rs.contains (r, opn') && decide (x.1 < r))
    | .error _ => true)
theorem runOk_of (E : Lx.Env) (s : ByteArray) (vs : List Nat) (rs : List (Nat × List Int)) (h : rOk E s.data.toList vs rs = true) (hz : rs.contains (0, []) = true) : RunOk E s (· ∈ vs) (fun p opn => (p, opn) ∈ rs) := by
  have h : ∀ x ∈ rs, _ := List.all_eq_true.1 h
  have hlen : s.data.toList.length = s.size := by simp
  refine ⟨fun p opn hp => ?_, fun p opn hp q l2 hq => ?_, fun p opn t r opn' hp hn hk => ?_, by simpa using hz⟩
  · have := h _ hp
    simp only [Bool.and_eq_true, decide_eq_true_eq, List.contains_iff_mem, List.all_eq_true] at this
    exact ⟨this.1.1.1.1.1, by omega, this.1.1.1.2, fun m hm => this.1.1.2 m hm⟩
  · have := h _ hp
    simp only [hq, Bool.and_eq_true, decide_eq_true_eq, List.contains_iff_mem] at this
    exact ⟨this.1.2.1.1, this.1.2.1.2, by have := this.1.2.2; omega⟩
  · have := h _ hp
    simp only [hn, Bool.and_eq_true, Bool.or_eq_true, decide_eq_true_eq, List.contains_iff_mem, beq_iff_eq] at this
    rcases this.2 with h0 | h1
    · exact absurd h0 hk
    · exact h1
end Go.Proofs.YtcgibcjpkhefpaaGreatDoor

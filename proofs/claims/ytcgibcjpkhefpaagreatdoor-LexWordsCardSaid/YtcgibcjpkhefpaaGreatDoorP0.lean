/-
  The plain law of the reserved words: a text stands between blanks in the line of words just when it is one of the words of the list.
-/
import Derived.Lib.Strings
import Derived.Lib.Index
import Derived.Lib.IndexMore
import Derived.Lib.Bytealg
namespace Go.Lx
/-- The line of words: a blank ahead of each, one behind the last. -/
def lineOf (ws : List (List UInt8)) : List UInt8 := ws.flatMap (fun w => 32 :: w) ++ [32]
theorem contains_cons (c : UInt8) (l sub : List UInt8) : Lib.contains (c :: l) sub = (sub.isPrefixOf (c :: l) || Lib.contains l sub) := by
  have e : Lib.index (c :: l) sub = if sub.isPrefixOf (c :: l) then 0 else if Lib.index l sub == -1 then -1 else Lib.index l sub + 1 := by rw [Lib.index]
  unfold Lib.contains
  rw [e]
  have := Lib.index_ge l sub
  cases h : sub.isPrefixOf (c :: l) with
  | true => simp
  | false =>
    simp only [Bool.false_eq_true, if_false, Bool.false_or]
    by_cases h2 : Lib.index l sub = -1
    · simp [h2]
    · have : (Lib.index l sub == -1) = false := by simpa using h2
      rw [this]
      simp only [Bool.false_eq_true, if_false]
      congr 1
      apply propext
      omega
theorem contains_skip (w l t : List UInt8) (hw : (32 : UInt8) ∉ w) : Lib.contains (w ++ l) (32 :: t) = Lib.contains l (32 :: t) := by
  induction w with
  | nil => rfl
  | cons c w ih =>
    have hc : (32 : UInt8) ≠ c := fun e => hw (by simp [e])
    rw [List.cons_append, contains_cons, ih (fun h => hw (by simp [h]))]
    simp [List.isPrefixOf, hc]
theorem prefix_word {t w l : List UInt8} (ht : (32 : UInt8) ∉ t) (hw : (32 : UInt8) ∉ w) : (t ++ [32]).isPrefixOf (w ++ 32 :: l) = (t == w) := by
  induction t generalizing w with
  | nil =>
    cases w with
    | nil => simp [List.isPrefixOf]
    | cons c w =>
      have hc : (32 : UInt8) ≠ c := fun e => hw (by simp [e])
      simp [List.isPrefixOf, hc]
  | cons a t ih =>
    have ha : (32 : UInt8) ≠ a := fun e => ht (by simp [e])
    have ha' : a ≠ 32 := fun e => ha e.symm
    cases w with
    | nil => simp [List.isPrefixOf, ha']
    | cons c w =>
      have := ih (w := w) (fun h => ht (by simp [h])) (fun h => hw (by simp [h]))
      simp only [List.cons_append, List.isPrefixOf, this]
      rfl
theorem line_contains (t : List UInt8) (ht : (32 : UInt8) ∉ t) (h0 : t ≠ []) : ∀ ws : List (List UInt8), (∀ w ∈ ws, (32 : UInt8) ∉ w) → Lib.contains (lineOf ws) ([32] ++ t ++ [32]) = ws.contains t
  | [], _ => by
    have hl : lineOf [] = [32] := rfl
    rw [hl, List.contains_nil, List.append_assoc, List.singleton_append, contains_cons]
    cases t with
    | nil => exact absurd rfl h0
    | cons a t => simp [List.isPrefixOf, Lib.contains, Lib.index]
  | w :: ws, hws => by
    have hw := hws w (by simp)
    have ih := line_contains t ht h0 ws (fun x hx => hws x (by simp [hx]))
    have hl : lineOf (w :: ws) = 32 :: (w ++ lineOf ws) := by simp [lineOf]
    rw [List.append_assoc, List.singleton_append] at ih ⊢
    rw [hl, contains_cons, contains_skip w _ _ hw, ih]
    obtain ⟨l, e⟩ : ∃ l, lineOf ws = 32 :: l := by
      cases ws with
      | nil => exact ⟨[], rfl⟩
      | cons x xs => exact ⟨_, by simp only [lineOf, List.flatMap_cons, List.cons_append]; rfl⟩
    rw [e, List.isPrefixOf, prefix_word ht hw, List.contains_cons]
    simp
end Go.Lx

/-
  The plain law of Quote, second part: the model's scan of a text literal of given units is that one token, and the end.
-/
import Derived.Test.YtcgibcjpkhefpaaGreatDoorQ0
namespace Go.Lx
theorem quote_len (us : List Nat) : (quoteB us).length = (us.flatMap q1).length + 2 := by simp [quoteB]
theorem quote_skip0 (E : Env) (us : List Nat) (f : Nat) (ln : Bool) : skip E (quoteB us) f 0 ln = .ok (0, ln) := by
  have hpre : ∀ t, pre t (quoteB us) 0 = t.isPrefixOf (34 :: (us.flatMap q1 ++ [34])) := fun t => rfl
  cases f with
  | zero => rfl
  | succ f =>
    have h1 : nl (quoteB us) 0 = none := by unfold nl firstOf nls; simp [hpre, List.isPrefixOf]
    have h2 : bl (quoteB us) 0 = none := by unfold bl firstOf bls; simp [hpre, List.isPrefixOf]
    have h3 : comment E (quoteB us) 0 ln = .no := by unfold comment; simp [hpre, List.isPrefixOf]
    simp only [skip, h1, h2, h3]
theorem skip_end (E : Env) (l : List UInt8) (f p : Nat) (ln : Bool) (hp : l.length ≤ p) : skip E l f p ln = .ok (p, ln) := by
  have hpre : ∀ c t, pre (c :: t) l p = false := fun c t => by unfold pre; rw [List.drop_eq_nil_of_le hp]; rfl
  cases f with
  | zero => rfl
  | succ f =>
    have h1 : nl l p = none := by unfold nl firstOf nls; simp [hpre]
    have h2 : bl l p = none := by unfold bl firstOf bls; simp [hpre]
    have h3 : comment E l p ln = .no := by unfold comment; simp [hpre]
    simp only [skip, h1, h2, h3]
def quoteTk (us : List Nat) : Tok := ⟨⟨5, [], us.flatMap u16, 0⟩, 0, (quoteB us).length, false⟩
def endTk (n : Nat) : Tok := ⟨⟨0, [], [], 0⟩, n, n, false⟩
theorem quote_next0 (E : Env) (us : List Nat) (hu : ∀ u ∈ us, u < 65536) : next E (quoteB us) 0 [] = .ok (quoteTk us, (quoteB us).length, []) := by
  have hl := quote_len us
  have hf := flat_len us
  have hp : pk (quoteB us) 0 = 34 := rfl
  have ht := textGo_quote (quoteB us) us ((quoteB us).length - 0) 1 [] hu (by omega) rfl
  have htx : text (quoteB us) 0 [] = .ok (⟨5, [], us.flatMap u16, 0⟩, (quoteB us).length, []) := by
    unfold text
    rw [hp, ht]
    simp only [List.nil_append]
    rw [show 1 + (us.flatMap q1).length + 1 = (quoteB us).length by omega]
  have htok : token E (quoteB us) 0 [] = .ok (⟨5, [], us.flatMap u16, 0⟩, (quoteB us).length, []) := by
    unfold token
    simp only [hp]
    rw [if_neg (by omega), if_neg (by decide), if_neg (by simp [isDig]), if_pos (by decide)]
    exact htx
  unfold next
  rw [quote_skip0]
  simp only [htok]
  rfl
theorem next_end (E : Env) (l : List UInt8) (p : Nat) (opn : List Int) (hp : l.length ≤ p) : next E l p opn = .ok (endTk p, p, opn) := by
  unfold next
  rw [skip_end E l _ p false hp]
  simp only
  have : token E l p opn = .ok (⟨0, [], [], 0⟩, p, opn) := by unfold token; simp only; rw [if_pos hp]
  rw [this]
  rfl
theorem quote_scan (E : Env) (us : List Nat) (hu : ∀ u ∈ us, u < 65536) : scan E (quoteB us) = .ok [quoteTk us, endTk (quoteB us).length] := by
  have hl := quote_len us
  obtain ⟨n, hn⟩ : ∃ n, (quoteB us).length = n + 1 := ⟨(us.flatMap q1).length + 1, by omega⟩
  unfold scan toks
  rw [quote_next0 E us hu]
  simp only
  have hk : ¬ (quoteTk us).tk.kind = 0 := by simp [quoteTk]
  simp only [if_neg hk]
  have : ∀ f a, toks E (quoteB us) (f + 1) (quoteB us).length [] a = .ok (a ++ [endTk (quoteB us).length]) := fun f a => by
    rw [toks, next_end E _ _ _ (Nat.le_refl _)]
    simp only [endTk, if_true]
  have h2 := this n ([] ++ [quoteTk us])
  rw [← hn] at h2
  rw [h2]
  rfl
end Go.Lx

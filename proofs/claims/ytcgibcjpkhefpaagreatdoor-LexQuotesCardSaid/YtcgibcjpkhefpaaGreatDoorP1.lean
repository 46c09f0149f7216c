/-
  The model of the lexer at the three examples of the document: closed facts.
-/
import Derived.Test.YtcgibcjpkhefpaaGreatDoorM0
namespace Go.Lx
/-- The one number of the examples: 1.5. -/
def envW : Env := { ca := fun _ => false, lit := fun l => if l = [49, 46, 53] then some (4609434218613702656, 3) else none }
def ex1 : List UInt8 := [97, 10, 43, 61, 49, 46, 53]
def ex2 : List UInt8 := [96, 120, 36, 123, 32, 123, 125, 32, 125, 121, 96]
def ex3 : List UInt8 := [97, 32, 35]
def toks1 : List Tok := [⟨⟨1, [97], [], 0⟩, 0, 1, false⟩, ⟨⟨3, [43, 61], [], 0⟩, 2, 4, true⟩, ⟨⟨4, [], [], 4609434218613702656⟩, 4, 7, false⟩, ⟨⟨0, [], [], 0⟩, 7, 7, false⟩]
def toks2 : List Tok := [⟨⟨7, [], [0, 120], 0⟩, 0, 4, false⟩, ⟨⟨3, [123], [], 0⟩, 5, 6, false⟩, ⟨⟨3, [125], [], 0⟩, 6, 7, false⟩, ⟨⟨9, [], [0, 121], 0⟩, 8, 11, false⟩, ⟨⟨0, [], [], 0⟩, 11, 11, false⟩]
instance : DecidableEq Tk := fun a b => decidable_of_iff (a.kind = b.kind ∧ a.text = b.text ∧ a.str = b.str ∧ a.num = b.num) (by cases a; cases b; simp)
instance : DecidableEq Tok := fun a b => decidable_of_iff (a.tk = b.tk ∧ a.frm = b.frm ∧ a.till = b.till ∧ a.line = b.line) (by cases a; cases b; simp)
def isOk (r : Except Nat (List Tok)) (l : List Tok) : Bool := match r with | .ok ts => decide (ts = l) | .error _ => false
def isErr (r : Except Nat (List Tok)) (n : Nat) : Bool := match r with | .ok _ => false | .error a => decide (a = n)
theorem of_isOk {r : Except Nat (List Tok)} {l : List Tok} (h : isOk r l = true) : r = .ok l := by
  unfold isOk at h
  split at h
  · rw [of_decide_eq_true h]
  · cases h
theorem of_isErr {r : Except Nat (List Tok)} {n : Nat} (h : isErr r n = true) : r = .error n := by
  unfold isErr at h
  split at h
  · cases h
  · rw [of_decide_eq_true h]
theorem scan1 : scan envW ex1 = .ok toks1 := of_isOk (by decide +kernel)
theorem scan2 : scan envW ex2 = .ok toks2 := of_isOk (by decide +kernel)
theorem scan3 : scan envW ex3 = .error 2 := of_isErr (by decide +kernel)
end Go.Lx

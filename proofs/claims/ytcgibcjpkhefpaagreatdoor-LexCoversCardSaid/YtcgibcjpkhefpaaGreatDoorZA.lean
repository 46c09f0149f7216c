/-
  The plain model of the lexer of package lex (no program in sight): bytes of a source, places, tokens. Nothing is proved here about the program.
  Plain facts on the lexer's model: places go on and stay within the source.
  The model of the lexer at the three examples of the document: closed facts.
  Plain law: products and quotients of floats that are no NaN by finite ones that are not 0 are floats that are no NaN.
  Plain law: decimal digits times a power of two (the table of package strconv's left shift): how many digits more there are.
  Plain law: the pinned table of the left shift is right, line by line.
  The plain law of Quote: what a text literal of given units looks like, and what the lexer's model reads at it.
  Plain law: what stands between tokens (ends of lines, blanks, comments), and that such a gap with an end of a line behind it is still one.
  Plain law: texts that are UTF-8, code point by code point; that a piece between bytes below 128 is UTF-8 again.
  Plain law: a row of tokens that covers a text; what the gaps ahead of them are.
  Plain law: where a token that is no number ends; that it begins and ends with a byte below 128; the open braces stay within bounds.
  Plain law: the model's decoder at a place of a text, and code points.
  Plain law: how the reference passes a gap.
-/
import Derived.Lib.Strings
import Derived.Lib.Index
import Derived.Lib.IndexMore
import Derived.Lib.Bytealg
import Derived.Lib.SpaceU
import Derived.Lib.TrimU
import Derived.Laws.FloatArith
import Derived.Lib.Hide
import GoSem.PinnedTables
import Derived.Lib.DecodeN
import Derived.Shelf.Unicode.DecodeSlow
namespace Go.Lx

/-- What is left open: whether a comment's bytes have an end of a line in them; what digits.Literal answers (bits, length). -/
structure Env where
  ca : List UInt8 → Bool
  lit : List UInt8 → Option (Nat × Nat)

def pk (l : List UInt8) (p : Nat) : UInt8 := l[p]?.getD 0
def isDig (c : UInt8) : Bool := decide (48 ≤ c) && decide (c ≤ 57)
def isLet (c : UInt8) : Bool := c == 36 || c == 95 || (decide (97 ≤ (c ||| 32)) && decide ((c ||| 32) ≤ 122))
def pre (t l : List UInt8) (p : Nat) : Bool := t.isPrefixOf (l.drop p)
def firstOf (ts : List (List UInt8)) (l : List UInt8) (p : Nat) : Option Nat := (ts.find? fun t => pre t l p).map fun t => p + t.length
def nls : List (List UInt8) := [[10], [13], [226, 128, 168], [226, 128, 169]]
def bls : List (List UInt8) := [[32], [9], [11], [12], [194, 160], [239, 187, 191]]
def nl (l : List UInt8) (p : Nat) : Option Nat := firstOf nls l p
def bl (l : List UInt8) (p : Nat) : Option Nat := firstOf bls l p

def lineEnd (l : List UInt8) : Nat → Nat → Nat
  | 0, p => p
  | f + 1, p => if p < l.length then (match nl l p with | some q => q | none => lineEnd l f (p + 1)) else p

inductive CR where
  | no
  | bad
  | till (q : Nat) (ln : Bool)

def comment (E : Env) (l : List UInt8) (p : Nat) (ln : Bool) : CR :=
  if pre [47, 47] l p then
    let q := lineEnd l (l.length - p) p
    .till q (ln || E.ca ((l.drop p).take (q - p)))
  else if pre [47, 42] l p then
    let n := Lib.index (l.drop (p + 2)) [42, 47]
    if n < 0 then .bad else .till (p + n.toNat + 4) (ln || E.ca ((l.drop p).take (n.toNat + 2)))
  else .no

def skip (E : Env) (l : List UInt8) : Nat → Nat → Bool → Except Nat (Nat × Bool)
  | 0, p, ln => .ok (p, ln)
  | f + 1, p, ln =>
    match nl l p with
    | some q => skip E l f q true
    | none =>
      match bl l p with
      | some q => skip E l f q ln
      | none =>
        match comment E l p ln with
        | .no => .ok (p, ln)
        | .bad => .error p
        | .till q ln' => skip E l f q ln'

def hexDigits : List UInt8 := [48, 49, 50, 51, 52, 53, 54, 55, 56, 57, 97, 98, 99, 100, 101, 102]
def hexd (c : UInt8) : Option Nat := let i := Lib.indexByte hexDigits (c ||| 32); if i < 0 ∨ c < 48 then none else some i.toNat

def hexGo (l : List UInt8) : Nat → Nat → Nat → Nat → Option (Nat × Nat × Nat)
  | 0, n, v, p => some (n, v, p)
  | f + 1, n, v, p =>
    match hexd (pk l p) with
    | none => some (n, v, p)
    | some k => if 1114111 < 16 * v + k then none else hexGo l f (n + 1) (16 * v + k) (p + 1)
def hex (l : List UInt8) (least most p : Nat) : Option (Nat × Nat) :=
  match hexGo l most 0 0 p with
  | none => none
  | some (n, v, q) => if n < least then none else some (v, q)

def u16 (n : Nat) : List UInt8 := [UInt8.ofNat (n / 256), UInt8.ofNat n]
def pointB (r : Nat) : List UInt8 :=
  if 1114111 < r then [] else if r < 65536 then u16 r else u16 (55296 + (r - 65536) / 1024) ++ u16 (56320 + r % 1024)
/-- A code point as it stands: its units, the place behind. -/
def plain (l : List UInt8) (p : Nat) : List UInt8 × Nat :=
  (pointB (Lib.decodeL (l.drop p)).1, p + (Lib.decodeL (l.drop p)).2)

def escs : List UInt8 := [110, 116, 98, 118, 102, 114]
def escVals : List Nat := [10, 9, 8, 11, 12, 13]

def escape (l : List UInt8) (p : Nat) : Option (List UInt8 × Nat) :=
  let c := pk l p
  let i := Lib.indexByte escs c
  if l.length ≤ p then none
  else if 0 ≤ i then some (u16 (escVals.getD i.toNat 0), p + 1)
  else if pre [13, 10] l p then some ([], p + 2)
  else match nl l p with
    | some q => some ([], q)
    | none =>
      if isDig c then (if c != 48 || isDig (pk l (p + 1)) then none else some ([0, 0], p + 1))
      else if c == 120 then (hex l 2 2 (p + 1)).map fun x => (u16 x.1, x.2)
      else if c == 117 && pk l (p + 1) == 123 then
        match hex l 1 l.length (p + 2) with
        | none => none
        | some (r, q) => if pk l q != 125 then none else some (pointB r, q + 1)
      else if c == 117 then (hex l 4 4 (p + 1)).map fun x => (u16 x.1, x.2)
      else some (plain l p)

/-- The body of a text, behind its sign q. -/
def textGo (l : List UInt8) (q : UInt8) : Nat → Nat → List UInt8 → Option (List UInt8 × Nat)
  | 0, _, _ => none
  | f + 1, p, acc =>
    let c := pk l p
    if l.length ≤ p ∨ c = 10 ∨ c = 13 then none
    else if c == q then some (acc, p + 1)
    else if c == 92 then
      match escape l (p + 1) with
      | none => none
      | some (u, p') => textGo l q f p' (acc ++ u)
    else textGo l q f (plain l p).2 (acc ++ (plain l p).1)

/-- A template's piece, behind its first byte: units, the place behind, whether code follows. -/
def pieceGo (l : List UInt8) : Nat → Nat → List UInt8 → Option (List UInt8 × Nat × Bool)
  | 0, _, _ => none
  | f + 1, p, acc =>
    let c := pk l p
    if l.length ≤ p then none
    else if c == 96 then some (acc, p + 1, false)
    else if pre [36, 123] l p then some (acc, p + 2, true)
    else if c == 13 then pieceGo l f (if pk l (p + 1) == 10 then p + 2 else p + 1) (acc ++ [0, 10])
    else if c == 92 then
      match escape l (p + 1) with
      | none => none
      | some (u, p') => pieceGo l f p' (acc ++ u)
    else pieceGo l f (plain l p).2 (acc ++ (plain l p).1)

structure Tk where
  kind : Nat
  text : List UInt8
  str : List UInt8
  num : Nat

/-- What a token is, the place behind it, the open braces. -/
abbrev TR := Except Nat (Tk × Nat × List Int)

def text (l : List UInt8) (p : Nat) (opn : List Int) : TR :=
  match textGo l (pk l p) (l.length - p) (p + 1) [] with
  | none => .error p
  | some (u, q) => .ok (⟨5, [], u, 0⟩, q, opn)

def piece (l : List UInt8) (whole part p : Nat) (opn : List Int) : TR :=
  match pieceGo l (l.length - p) (p + 1) [] with
  | none => .error p
  | some (u, q, false) => .ok (⟨whole, [], u, 0⟩, q, opn)
  | some (u, q, true) => .ok (⟨part, [], u, 0⟩, q, opn ++ [0])

def signs : List (List UInt8) := [[62,62,62,61],[46,46,46],[61,61,61],[33,61,61],[42,42,61],[60,60,61],[62,62,61],[62,62,62],[60,61],[62,61],[61,61],[33,61],[42,42],[43,43],[45,45],[60,60],[62,62],[38,38],[124,124],[43,61],[45,61],[42,61],[47,61],[37,61],[38,61],[124,61],[94,61],[61,62],[123],[125],[40],[41],[91],[93],[46],[59],[44],[60],[62],[43],[45],[42],[47],[37],[38],[124],[94],[33],[126],[63],[58],[61]]

def sign (l : List UInt8) (p : Nat) (opn : List Int) : TR :=
  match signs.find? fun t => pre t l p with
  | none => .error p
  | some t =>
    let k : TR := .ok (⟨3, t, [], 0⟩, p + t.length, opn)
    match opn.getLast? with
    | none => k
    | some n =>
      if t = [123] then .ok (⟨3, t, [], 0⟩, p + t.length, opn.dropLast ++ [n + 1])
      else if t = [125] then
        (if n = 0 then piece l 9 8 p opn.dropLast else .ok (⟨3, t, [], 0⟩, p + t.length, opn.dropLast ++ [n - 1]))
      else k

def nameEnd (l : List UInt8) : Nat → Nat → Nat
  | 0, p => p
  | f + 1, p => if isLet (pk l p) || isDig (pk l p) then nameEnd l f (p + 1) else p

def words : List UInt8 := [32, 98, 114, 101, 97, 107, 32, 99, 97, 115, 101, 32, 99, 97, 116, 99, 104, 32, 99, 108, 97, 115, 115, 32, 99, 111, 110, 115, 116, 32, 99, 111, 110, 116, 105, 110, 117, 101, 32, 100, 101, 98, 117, 103, 103, 101, 114, 32, 100, 101, 102, 97, 117, 108, 116, 32, 100, 101, 108, 101, 116, 101, 32, 100, 111, 32, 101, 108, 115, 101, 32, 101, 110, 117, 109, 32, 101, 120, 112, 111, 114, 116, 32, 101, 120, 116, 101, 110, 100, 115, 32, 102, 97, 108, 115, 101, 32, 102, 105, 110, 97, 108, 108, 121, 32, 102, 111, 114, 32, 102, 117, 110, 99, 116, 105, 111, 110, 32, 105, 102, 32, 105, 109, 112, 111, 114, 116, 32, 105, 110, 32, 105, 110, 115, 116, 97, 110, 99, 101, 111, 102, 32, 110, 101, 119, 32, 110, 117, 108, 108, 32, 114, 101, 116, 117, 114, 110, 32, 115, 117, 112, 101, 114, 32, 115, 119, 105, 116, 99, 104, 32, 116, 104, 105, 115, 32, 116, 104, 114, 111, 119, 32, 116, 114, 117, 101, 32, 116, 114, 121, 32, 116, 121, 112, 101, 111, 102, 32, 118, 97, 114, 32, 118, 111, 105, 100, 32, 119, 104, 105, 108, 101, 32, 119, 105, 116, 104, 32, 105, 109, 112, 108, 101, 109, 101, 110, 116, 115, 32, 105, 110, 116, 101, 114, 102, 97, 99, 101, 32, 108, 101, 116, 32, 112, 97, 99, 107, 97, 103, 101, 32, 112, 114, 105, 118, 97, 116, 101, 32, 112, 114, 111, 116, 101, 99, 116, 101, 100, 32, 112, 117, 98, 108, 105, 99, 32, 115, 116, 97, 116, 105, 99, 32, 121, 105, 101, 108, 100, 32]

def isWord (t : List UInt8) : Bool := !t.isEmpty && !Lib.contains t [32] && Lib.contains words ([32] ++ t ++ [32])
def isName (t : List UInt8) : Bool := (match t with | [] => false | c :: r => isLet c && r.all (fun c => isLet c || isDig c)) && !isWord t

def token (E : Env) (l : List UInt8) (p : Nat) (opn : List Int) : TR :=
  let c := pk l p
  if l.length ≤ p then .ok (⟨0, [], [], 0⟩, p, opn)
  else if isLet c then
    let q := nameEnd l (l.length - p) p
    let t := (l.drop p).take (q - p)
    .ok (⟨if isWord t then 2 else 1, t, [], 0⟩, q, opn)
  else if isDig c || (c == 46 && isDig (pk l (p + 1))) then
    match E.lit (l.drop p) with
    | none => .error p
    | some (v, n) => .ok (⟨4, [], [], v⟩, p + n, opn)
  else if c == 34 || c == 39 then text l p opn
  else if c == 96 then piece l 6 7 p opn
  else sign l p opn

structure Tok where
  tk : Tk
  frm : Nat
  till : Nat
  line : Bool

def next (E : Env) (l : List UInt8) (p : Nat) (opn : List Int) : Except Nat (Tok × Nat × List Int) :=
  match skip E l (l.length - p) p false with
  | .error at' => .error at'
  | .ok (q, ln) =>
    match token E l q opn with
    | .error at' => .error at'
    | .ok (tk, r, opn') => .ok (⟨tk, q, r, ln⟩, r, opn')

def toks (E : Env) (l : List UInt8) : Nat → Nat → List Int → List Tok → Except Nat (List Tok)
  | 0, _, _, acc => .ok acc
  | f + 1, p, opn, acc =>
    match next E l p opn with
    | .error at' => .error at'
    | .ok (t, q, opn') => if t.tk.kind = 0 then .ok (acc ++ [t]) else toks E l f q opn' (acc ++ [t])

def scan (E : Env) (l : List UInt8) : Except Nat (List Tok) := toks E l (l.length + 1) 0 [] []

end Go.Lx
namespace Go.Lx

theorem pk_zero {l : List UInt8} {p : Nat} (h : l.length ≤ p) : pk l p = 0 := by simp [pk, h]
theorem pk_lt {l : List UInt8} {p : Nat} (h : pk l p ≠ 0) : p < l.length := by
  rcases Nat.lt_or_ge p l.length with h' | h'
  · exact h'
  · exact absurd (pk_zero h') h
theorem pre_le {t l : List UInt8} {p : Nat} (h : pre t l p = true) (hp : p ≤ l.length) : p + t.length ≤ l.length := by
  simp only [pre, List.isPrefixOf_iff_prefix] at h
  have := h.length_le
  simp at this; omega
theorem firstOf_le {ts : List (List UInt8)} {l : List UInt8} {p q : Nat} (ht : ∀ t ∈ ts, 1 ≤ t.length) (h : firstOf ts l p = some q) (hp : p ≤ l.length) : p < q ∧ q ≤ l.length := by
  simp only [firstOf, Option.map_eq_some_iff] at h
  obtain ⟨t, h1, rfl⟩ := h
  have h2 := List.find?_some h1
  have h3 := List.mem_of_find?_eq_some h1
  have := pre_le (by simpa using h2) hp
  have := ht t h3
  omega
theorem nl_le {l : List UInt8} {p q : Nat} (h : nl l p = some q) (hp : p ≤ l.length) : p < q ∧ q ≤ l.length := firstOf_le (by decide) h hp
theorem bl_le {l : List UInt8} {p q : Nat} (h : bl l p = some q) (hp : p ≤ l.length) : p < q ∧ q ≤ l.length := firstOf_le (by decide) h hp
theorem hexd_zero : hexd 0 = none := by decide
theorem hexGo_le (l : List UInt8) : ∀ (f n v p n' v' q : Nat), hexGo l f n v p = some (n', v', q) → p ≤ l.length → p ≤ q ∧ q ≤ l.length
  | 0, n, v, p, n', v', q, h, hp => by
    simp only [hexGo, Option.some.injEq, Prod.mk.injEq] at h
    omega
  | f + 1, n, v, p, n', v', q, h, hp => by
    rw [hexGo] at h
    split at h
    · simp only [Option.some.injEq, Prod.mk.injEq] at h
      omega
    · rename_i k hk
      split at h
      · cases h
      · have hlt : p < l.length := pk_lt (fun e => by rw [e, hexd_zero] at hk; cases hk)
        have ih := hexGo_le l f _ _ _ _ _ _ h (by omega)
        omega
theorem hexGo_val (l : List UInt8) : ∀ (f n v p n' v' q : Nat), hexGo l f n v p = some (n', v', q) → v ≤ 1114111 → v' ≤ 1114111
  | 0, n, v, p, n', v', q, h, hp => by
    simp only [hexGo, Option.some.injEq, Prod.mk.injEq] at h
    omega
  | f + 1, n, v, p, n', v', q, h, hp => by
    rw [hexGo] at h
    split at h
    · simp only [Option.some.injEq, Prod.mk.injEq] at h
      omega
    · split at h
      · cases h
      · exact hexGo_val l f _ _ _ _ _ _ h (by omega)
theorem hex_le {l : List UInt8} {least most p v q : Nat} (h : hex l least most p = some (v, q)) (hp : p ≤ l.length) : p ≤ q ∧ q ≤ l.length ∧ v ≤ 1114111 := by
  unfold hex at h
  split at h
  · cases h
  · rename_i n v' q' hg
    split at h
    · cases h
    · simp only [Option.some.injEq, Prod.mk.injEq] at h
      obtain ⟨rfl, rfl⟩ := h
      have h1 := hexGo_le _ _ _ _ _ _ _ _ hg hp
      exact ⟨h1.1, h1.2, hexGo_val _ _ _ _ _ _ _ _ hg (by omega)⟩
theorem decode_fits (s : ByteArray) (pos : Nat) (h : pos < s.size) : pos + (Utf8.decode s pos).2 ≤ s.size := by
  unfold Utf8.decode
  simp only
  repeat' split
  all_goals simp_all
  all_goals omega
theorem pointB_len (r : Nat) : (pointB r).length ≤ 4 := by
  unfold pointB u16; split
  · simp
  · split <;> simp
theorem u16_len (n : Nat) : (u16 n).length = 2 := rfl
theorem plain_le {l : List UInt8} {p : Nat} (hp : p < l.length) : p < (plain l p).2 ∧ (plain l p).2 ≤ l.length ∧ (plain l p).1.length ≤ 4 := by
  unfold plain Lib.decodeL
  have h1 := Lib.width_pos ⟨(l.drop p).toArray⟩ 0
  have h2 := decode_fits ⟨(l.drop p).toArray⟩ 0 (by simp [ByteArray.size]; omega)
  simp [ByteArray.size] at h2
  exact ⟨by simp only; omega, by simp only; omega, pointB_len _⟩
theorem escape_le {l : List UInt8} {p : Nat} {u : List UInt8} {q : Nat} (h : escape l p = some (u, q)) : p < q ∧ q ≤ l.length ∧ u.length ≤ 4 := by
  unfold escape at h
  simp only at h
  split at h
  · cases h
  rename_i hlt
  have hlt : p < l.length := by omega
  split at h
  · simp only [Option.some.injEq, Prod.mk.injEq] at h
    obtain ⟨rfl, rfl⟩ := h
    exact ⟨by omega, by omega, by rw [u16_len]; omega⟩
  split at h
  · rename_i hcr
    have := pre_le hcr (by omega)
    simp only [Option.some.injEq, Prod.mk.injEq] at h
    obtain ⟨rfl, rfl⟩ := h
    simp at this
    exact ⟨by omega, by omega, by simp⟩
  split at h
  · rename_i q' hnl
    have := nl_le hnl (by omega)
    simp only [Option.some.injEq, Prod.mk.injEq] at h
    obtain ⟨rfl, rfl⟩ := h
    exact ⟨by omega, by omega, by simp⟩
  split at h
  · split at h
    · cases h
    · simp only [Option.some.injEq, Prod.mk.injEq] at h
      obtain ⟨rfl, rfl⟩ := h
      exact ⟨by omega, by omega, by simp⟩
  split at h
  · simp only [Option.map_eq_some_iff, Prod.mk.injEq] at h
    obtain ⟨⟨v, r⟩, hx, rfl, rfl⟩ := h
    have := hex_le hx (by omega)
    exact ⟨by simp only; omega, by simp only; omega, by rw [u16_len]; omega⟩
  split at h
  · rename_i hb
    have hb2 : pk l (p + 1) = 123 := by simp only [Bool.and_eq_true, beq_iff_eq] at hb; exact hb.2
    have hl2 : p + 1 < l.length := pk_lt (by rw [hb2]; decide)
    split at h
    · cases h
    · rename_i r q' hx
      have := hex_le hx (by omega)
      split at h
      · cases h
      · rename_i ht
        have hlq : q' < l.length := pk_lt (by simp only [bne_iff_ne, ne_eq, Decidable.not_not] at ht; rw [ht]; decide)
        simp only [Option.some.injEq, Prod.mk.injEq] at h
        obtain ⟨rfl, rfl⟩ := h
        exact ⟨by omega, by omega, pointB_len _⟩
  split at h
  · simp only [Option.map_eq_some_iff, Prod.mk.injEq] at h
    obtain ⟨⟨v, r⟩, hx, rfl, rfl⟩ := h
    have := hex_le hx (by omega)
    exact ⟨by simp only; omega, by simp only; omega, by rw [u16_len]; omega⟩
  · simp only [Option.some.injEq] at h
    have := plain_le hlt
    rw [h] at this
    exact this
end Go.Lx
namespace Go.Lx
/-- The one number of the examples: 1.5. -/
def envW : Env := { ca := fun _ => false, lit := fun l => if l = [49, 46, 53] then some (4609434218613702656, 3) else none }
def ex1 : List UInt8 := [97, 10, 43, 61, 49, 46, 53]
def ex2 : List UInt8 := [96, 120, 36, 123, 32, 123, 125, 32, 125, 121, 96]
def ex3 : List UInt8 := [97, 32, 35]
def toks1 : List Tok := [⟨⟨1, [97], [], 0⟩, 0, 1, false⟩, ⟨⟨3, [43, 61], [], 0⟩, 2, 4, true⟩, ⟨⟨4, [], [], 4609434218613702656⟩, 4, 7, false⟩, ⟨⟨0, [], [], 0⟩, 7, 7, false⟩]
def toks2 : List Tok := [⟨⟨7, [], [0, 120], 0⟩, 0, 4, false⟩, ⟨⟨3, [123], [], 0⟩, 5, 6, false⟩, ⟨⟨3, [125], [], 0⟩, 6, 7, false⟩, ⟨⟨9, [], [0, 121], 0⟩, 8, 11, false⟩, ⟨⟨0, [], [], 0⟩, 11, 11, false⟩]
instance : DecidableEq Tk := fun a b => decidable_of_iff (a.kind = b.kind ∧ a.text = b.text ∧ a.str = b.str ∧ a.num = b.num) (by cases a; cases b; simp)
instance : DecidableEq Tok := fun a b => decidable_of_iff (a.tk = b.tk ∧ a.frm = b.frm ∧ a.till = b.till ∧ a.line = b.line) (by cases a; cases b; simp)
def isOk (r : Except Nat (List Tok)) (l : List Tok) : Bool := match r with | .ok ts => decide (ts = l) | .error _ => false
def isErr (r : Except Nat (List Tok)) (n : Nat) : Bool := match r with | .ok _ => false | .error a => decide (a = n)
theorem of_isOk {r : Except Nat (List Tok)} {l : List Tok} (h : isOk r l = true) : r = .ok l := by
  unfold isOk at h
  split at h
  · rw [of_decide_eq_true h]
  · cases h
theorem of_isErr {r : Except Nat (List Tok)} {n : Nat} (h : isErr r n = true) : r = .error n := by
  unfold isErr at h
  split at h
  · cases h
  · rw [of_decide_eq_true h]
theorem scan1 : scan envW ex1 = .ok toks1 := of_isOk (by decide +kernel)
theorem scan2 : scan envW ex2 = .ok toks2 := of_isOk (by decide +kernel)
theorem scan3 : scan envW ex3 = .error 2 := of_isErr (by decide +kernel)
end Go.Lx
namespace Go.Fl
open Ieee
abbrev F : Format := FloatKind.format .f64
/-- It is no NaN. -/
def Ok (x : Nat) : Prop := (F.read x).isNaN = false
/-- It is a number and not 0. -/
def Pw (x : Nat) : Prop := match F.read x with | .number _ m _ => m ≠ 0 | _ => False
instance (x : Nat) : Decidable (Pw x) := by unfold Pw; split <;> infer_instance
theorem word_ok (neg : Bool) {rung : Nat} (h : rung ≤ F.infRung) : Ok (F.word neg rung) := by
  have h1 := F.infRung_lt
  have hm : F.word neg rung % F.signWeight = rung := by
    unfold Format.word
    split
    · rw [Nat.add_mod_left, Nat.mod_eq_of_lt (by omega)]
    · exact Nat.mod_eq_of_lt (by omega)
  unfold Ok Format.read
  simp only [hm]
  split
  · rfl
  split
  · rfl
  split
  · rfl
  · omega
theorem nearest_ok (neg : Bool) (mag : Nat) (place : Int) : Ok (F.nearest neg mag place) := by
  unfold Format.nearest
  dsimp only
  split
  · exact word_ok _ (Nat.zero_le _)
  · exact word_ok _ (Nat.min_le_right ..)
theorem write_ok {d : Datum} (h : d.isNaN = false) : Ok (F.write d) := by
  cases d with
  | number neg mag place => exact nearest_ok neg mag place
  | infinity neg => exact word_ok neg (Nat.le_refl _)
  | nan neg fr => cases h
theorem ofInt_ok (n : Int) : Ok (floatOfInt .f64 n) := write_ok (d := .number (n < 0) n.natAbs 0) rfl
theorem mul_ok {x y : Nat} (hx : Ok x) (hy : Pw y) : ∃ r, floatBits .mul .f64 x y = some r ∧ Ok r := by
  have h : ∃ d, (F.read x).product (F.read y) = some d ∧ d.isNaN = false := by
    unfold Ok at hx
    unfold Pw at hy
    generalize F.read x = a at *
    generalize F.read y = b at *
    cases b with
    | number t n j =>
      simp only at hy
      cases a with
      | number s m i => exact ⟨_, rfl, rfl⟩
      | infinity s => exact ⟨.infinity (s ^^ t), by simp [Datum.product, hy], rfl⟩
      | nan s fr => cases hx
    | infinity t => exact hy.elim
    | nan t fr => exact hy.elim
  obtain ⟨d, hd, hn⟩ := h
  refine ⟨F.write d, ?_, write_ok hn⟩
  show (FloatKind.format .f64).mul x y = _
  unfold Format.mul
  rw [show (FloatKind.format .f64) = F from rfl, hd]
  rfl
theorem quo_ok {x y : Nat} (hx : Ok x) (hy : Pw y) : ∃ r, floatBits .quo .f64 x y = some r ∧ Ok r := by
  have h : ∃ d, (F.read x).quotient (F.fractionBits + 2) (F.read y) = some d ∧ d.isNaN = false := by
    unfold Ok at hx
    unfold Pw at hy
    generalize F.read x = a at *
    generalize F.read y = b at *
    cases b with
    | number t n j =>
      simp only at hy
      cases a with
      | number s m i => exact ⟨_, by simp only [Datum.quotient, if_neg hy]; rfl, rfl⟩
      | infinity s => exact ⟨.infinity (s ^^ t), rfl, rfl⟩
      | nan s fr => cases hx
    | infinity t => exact hy.elim
    | nan t fr => exact hy.elim
  obtain ⟨d, hd, hn⟩ := h
  refine ⟨F.write d, ?_, write_ok hn⟩
  show (FloatKind.format .f64).div x y = _
  unfold Format.div
  rw [show (FloatKind.format .f64) = F from rfl, hd]
  rfl
end Go.Fl
namespace Go.Dec
/-- The number of the first r digits. -/
def pv (d : Nat → Nat) : Nat → Nat
  | 0 => 0
  | r + 1 => 10 * pv d r + d r
theorem pv_congr {d e : Nat → Nat} : ∀ {r : Nat}, (∀ i, i < r → d i = e i) → pv d r = pv e r
  | 0, _ => rfl
  | r + 1, h => by
    rw [pv, pv, pv_congr (fun i hi => h i (by omega)), h r (by omega)]
theorem pv_lt {d : Nat → Nat} : ∀ {r : Nat}, (∀ i, i < r → d i ≤ 9) → pv d r < 10 ^ r
  | 0, _ => by simp [pv]
  | r + 1, h => by
    have h1 := pv_lt (d := d) (r := r) (fun i hi => h i (by omega))
    have h2 := h r (by omega)
    rw [pv, Nat.pow_succ]; omega
/-- Digits behind place i: between the first i alone and one more. -/
theorem pv_mid {d : Nat → Nat} : ∀ {r i : Nat}, (∀ j, i ≤ j → j < r → d j ≤ 9) → i ≤ r → pv d i * 10 ^ (r - i) ≤ pv d r ∧ pv d r < (pv d i + 1) * 10 ^ (r - i)
  | 0, i, _, hi => by
    have : i = 0 := by omega
    subst this
    simp
  | r + 1, i, h, hi => by
    by_cases e : i = r + 1
    · subst e; simp
    · have h1 := pv_mid (d := d) (r := r) (i := i) (fun j a b => h j a (by omega)) (by omega)
      have h2 := h r (by omega) (by omega)
      rw [show r + 1 - i = (r - i) + 1 by omega, Nat.pow_succ, pv, ← Nat.mul_assoc, ← Nat.mul_assoc]
      omega
/-- X has exactly w digits. -/
def Wd (X w : Nat) : Prop := X < 10 ^ w ∧ (1 ≤ w → 10 ^ (w - 1) ≤ X)
theorem wd_pos {X w : Nat} (h : Wd X w) (hX : 0 < X) : 1 ≤ w := by
  rcases Nat.eq_zero_or_pos w with rfl | hw
  · have := h.1; simp at this; omega
  · exact hw
theorem wd_zero {w : Nat} (h : Wd 0 w) : w = 0 := by
  rcases Nat.eq_zero_or_pos w with hw | hw
  · exact hw
  · have h1 := h.2 hw
    have h2 : 0 < 10 ^ (w - 1) := Nat.pow_pos (by decide)
    omega
theorem wd_div {X w : Nat} (h : Wd X (w + 1)) : Wd (X / 10) w := by
  obtain ⟨h1, h2⟩ := h
  rw [Nat.pow_succ] at h1
  refine ⟨by omega, fun hw => ?_⟩
  have h3 := h2 (by omega)
  obtain ⟨v, rfl⟩ : ∃ v, w = v + 1 := ⟨w - 1, by omega⟩
  rw [show v + 1 + 1 - 1 = v + 1 by omega, Nat.pow_succ] at h3
  rw [show v + 1 - 1 = v by omega]
  omega
theorem wd_one {X : Nat} (h : Wd X 1) : 1 ≤ X ∧ X ≤ 9 := by
  have h1 := h.1
  have h2 := h.2 (by omega)
  simp at h1 h2
  omega
/-- The first digit stays the same when the last one goes. -/
theorem lead_div (X w : Nat) : X / 10 / 10 ^ w = X / 10 ^ (w + 1) := by
  rw [Nat.div_div_eq_div_mul, Nat.pow_succ, Nat.mul_comm]
/-- A step of the left shift: the digit taken in. -/
theorem step_div (d : Nat → Nat) (r n q : Nat) : (pv d (r + 1) * q + n) / 10 = pv d r * q + (n + d r * q) / 10 ∧ (pv d (r + 1) * q + n) % 10 = (n + d r * q) % 10 := by
  have : pv d (r + 1) * q + n = 10 * (pv d r * q) + (n + d r * q) := by
    rw [pv, Nat.add_mul, Nat.mul_assoc]; omega
  rw [this]
  omega
/-- Whether digits d (nd of them) stand before digits e (c of them), as fractions. -/
def Less (d : Nat → Nat) (nd : Nat) (e : Nat → Nat) (c : Nat) : Prop := pv d nd * 10 ^ c < pv e c * 10 ^ nd
theorem less_short {d e : Nat → Nat} {nd c : Nat} (h : ∀ j, j < nd → d j = e j) (hc : nd < c) (he : ∀ j, j < c → e j ≤ 9) (h1 : 1 ≤ e (c - 1)) : Less d nd e c := by
  unfold Less
  rw [pv_congr h]
  obtain ⟨m, rfl⟩ : ∃ m, c = m + 1 := ⟨c - 1, by omega⟩
  have h2 := (pv_mid (d := e) (r := m) (i := nd) (fun j _ b => he j (by omega)) (by omega)).1
  rw [show m + 1 - 1 = m by omega] at h1
  have h3 : pv e nd * 10 ^ (m + 1) < pv e (m + 1) * 10 ^ nd := by
    have e1 : pv e nd * 10 ^ (m + 1) = (pv e nd * 10 ^ (m - nd)) * 10 * 10 ^ nd := by
      rw [Nat.mul_assoc, Nat.mul_assoc, Nat.mul_comm 10, ← Nat.pow_succ, ← Nat.pow_add]
      congr 2; omega
    rw [e1]
    apply Nat.mul_lt_mul_of_pos_right
    · rw [pv]; omega
    · exact Nat.pow_pos (by decide)
  exact h3
theorem pow_split (a b : Nat) (h : b ≤ a) : 10 ^ a = 10 ^ (a - b) * 10 ^ b := by
  rw [← Nat.pow_add]; congr 1; omega
theorem less_at {d e : Nat → Nat} {nd c i : Nat} (h : ∀ j, j < i → d j = e j) (hi : i < nd) (hc : i < c) (hd : ∀ j, j < nd → d j ≤ 9) (he : ∀ j, j < c → e j ≤ 9) (h1 : d i < e i) : Less d nd e c := by
  unfold Less
  have h2 := (pv_mid (d := d) (r := nd) (i := i + 1) (fun j _ b => hd j b) (by omega)).2
  have h3 := (pv_mid (d := e) (r := c) (i := i + 1) (fun j _ b => he j b) (by omega)).1
  have h4 : pv d (i + 1) + 1 ≤ pv e (i + 1) := by
    rw [pv, pv, pv_congr h]; omega
  rw [pow_split c (i + 1) (by omega), pow_split nd (i + 1) (by omega), ← Nat.mul_assoc, ← Nat.mul_assoc]
  apply Nat.mul_lt_mul_of_pos_right _ (Nat.pow_pos (by decide))
  calc pv d nd * 10 ^ (c - (i + 1)) < (pv d (i + 1) + 1) * 10 ^ (nd - (i + 1)) * 10 ^ (c - (i + 1)) := Nat.mul_lt_mul_of_pos_right h2 (Nat.pow_pos (by decide))
    _ ≤ pv e (i + 1) * 10 ^ (nd - (i + 1)) * 10 ^ (c - (i + 1)) := Nat.mul_le_mul_right _ (Nat.mul_le_mul_right _ h4)
    _ = pv e (i + 1) * 10 ^ (c - (i + 1)) * 10 ^ (nd - (i + 1)) := by rw [Nat.mul_assoc, Nat.mul_assoc, Nat.mul_comm (10 ^ _)]
    _ ≤ pv e c * 10 ^ (nd - (i + 1)) := Nat.mul_le_mul_right _ h3
theorem not_less_at {d e : Nat → Nat} {nd c i : Nat} (h : ∀ j, j < i → d j = e j) (hi : i < nd) (hc : i < c) (hd : ∀ j, j < nd → d j ≤ 9) (he : ∀ j, j < c → e j ≤ 9) (h1 : e i < d i) : ¬ Less d nd e c := by
  have h2 : Less e c d nd := less_at (fun j hj => (h j hj).symm) hc hi he hd h1
  unfold Less at h2 ⊢
  omega
theorem not_less_all {d e : Nat → Nat} {nd c : Nat} (h : ∀ j, j < c → d j = e j) (hc : c ≤ nd) (hd : ∀ j, j < nd → d j ≤ 9) : ¬ Less d nd e c := by
  unfold Less
  rw [← pv_congr h]
  have h2 := (pv_mid (d := d) (r := nd) (i := c) (fun j _ b => hd j b) hc).1
  have h3 : pv d c * 10 ^ nd ≤ pv d nd * 10 ^ c := by
    rw [pow_split nd c hc, ← Nat.mul_assoc]
    exact Nat.mul_le_mul_right _ h2
  omega
/-- The table's line for k: the digits of 5^k, c of them, and how many digits more. -/
structure Cheat (k : Nat) (e : Nat → Nat) (c delta : Nat) : Prop where
  dig : ∀ j, j < c → e j ≤ 9
  last : 1 ≤ e (c - 1)
  val : pv e c = 5 ^ k
  lo : 10 ^ (c - 1) ≤ 5 ^ k
  hi : 5 ^ k < 10 ^ c
  c1 : 1 ≤ c
  ck : c ≤ k
  de : delta = k - c + 1
theorem two_five (k : Nat) : 2 ^ k * 5 ^ k = 10 ^ k := by rw [← Nat.mul_pow]
theorem wd_less {k c delta nd : Nat} {d e : Nat → Nat} (h : Cheat k e c delta) (hd : ∀ j, j < nd → d j ≤ 9) (h0 : 1 ≤ d 0) (hn : 1 ≤ nd) (hl : Less d nd e c) : Wd (pv d nd * 2 ^ k) (nd + delta - 1) := by
  have hck := h.ck
  have hde := h.de
  have hlow : 10 ^ (nd - 1) ≤ pv d nd := by
    have := (pv_mid (d := d) (r := nd) (i := 1) (fun j _ b => hd j b) hn).1
    have e1 : pv d 1 = d 0 := by simp [pv]
    rw [e1] at this
    exact Nat.le_trans (Nat.le_mul_of_pos_left _ h0) this
  unfold Less at hl
  rw [h.val] at hl
  refine ⟨?_, fun _ => ?_⟩
  · have h1 : pv d nd * 2 ^ k * 10 ^ c < 10 ^ (nd + delta - 1) * 10 ^ c := by
      calc pv d nd * 2 ^ k * 10 ^ c = pv d nd * 10 ^ c * 2 ^ k := by rw [Nat.mul_assoc, Nat.mul_comm (2 ^ k), ← Nat.mul_assoc]
        _ < 5 ^ k * 10 ^ nd * 2 ^ k := Nat.mul_lt_mul_of_pos_right hl (Nat.pow_pos (by decide))
        _ = 2 ^ k * 5 ^ k * 10 ^ nd := by rw [Nat.mul_comm, Nat.mul_assoc]
        _ = 10 ^ (nd + delta - 1) * 10 ^ c := by rw [two_five, ← Nat.pow_add, ← Nat.pow_add]; congr 1; omega
    exact Nat.lt_of_mul_lt_mul_right h1
  · have h2 : 10 ^ (k - c) ≤ 2 ^ k := by
      have h3 : 10 ^ (k - c) * 5 ^ k ≤ 2 ^ k * 5 ^ k := by
        rw [two_five, pow_split k c hck]
        exact Nat.mul_le_mul_left _ (Nat.le_of_lt h.hi)
      exact Nat.le_of_mul_le_mul_right h3 (Nat.pow_pos (by decide))
    calc 10 ^ (nd + delta - 1 - 1) = 10 ^ (nd - 1) * 10 ^ (k - c) := by rw [← Nat.pow_add]; congr 1; omega
      _ ≤ pv d nd * 2 ^ k := Nat.mul_le_mul hlow h2
theorem wd_not_less {k c delta nd : Nat} {d e : Nat → Nat} (h : Cheat k e c delta) (hd : ∀ j, j < nd → d j ≤ 9) (hl : ¬ Less d nd e c) : Wd (pv d nd * 2 ^ k) (nd + delta) := by
  have hck := h.ck
  have hde := h.de
  have hc1 := h.c1
  unfold Less at hl
  rw [h.val] at hl
  refine ⟨?_, fun _ => ?_⟩
  · have h2 : 2 ^ k ≤ 10 ^ delta := by
      have h3 : 2 ^ k * 5 ^ k ≤ 10 ^ delta * 5 ^ k := by
        rw [two_five]
        calc 10 ^ k = 10 ^ delta * 10 ^ (c - 1) := by rw [← Nat.pow_add]; congr 1; omega
          _ ≤ 10 ^ delta * 5 ^ k := Nat.mul_le_mul_left _ h.lo
      exact Nat.le_of_mul_le_mul_right h3 (Nat.pow_pos (by decide))
    calc pv d nd * 2 ^ k < 10 ^ nd * 2 ^ k := Nat.mul_lt_mul_of_pos_right (pv_lt hd) (Nat.pow_pos (by decide))
      _ ≤ 10 ^ nd * 10 ^ delta := Nat.mul_le_mul_left _ h2
      _ = 10 ^ (nd + delta) := by rw [← Nat.pow_add]
  · have h1 : 10 ^ (nd + delta - 1) * 10 ^ c ≤ pv d nd * 2 ^ k * 10 ^ c := by
      calc 10 ^ (nd + delta - 1) * 10 ^ c = 2 ^ k * 5 ^ k * 10 ^ nd := by rw [two_five, ← Nat.pow_add, ← Nat.pow_add]; congr 1; omega
        _ = 5 ^ k * 10 ^ nd * 2 ^ k := by rw [Nat.mul_assoc, Nat.mul_comm]
        _ ≤ pv d nd * 10 ^ c * 2 ^ k := Nat.mul_le_mul_right _ (Nat.le_of_not_lt hl)
        _ = pv d nd * 2 ^ k * 10 ^ c := by rw [Nat.mul_assoc, Nat.mul_comm (10 ^ c), ← Nat.mul_assoc]
    exact Nat.le_of_mul_le_mul_right h1 (Nat.pow_pos (by decide))
/-- Where no digit is added the first one grows at least twofold. -/
theorem lead_grow {k nd : Nat} {d : Nat → Nat} (hk : 1 ≤ k) (hd : ∀ j, j < nd → d j ≤ 9) (hn : 1 ≤ nd) : 2 * d 0 ≤ pv d nd * 2 ^ k / 10 ^ (nd - 1) := by
  have h1 := (pv_mid (d := d) (r := nd) (i := 1) (fun j _ b => hd j b) hn).1
  have e1 : pv d 1 = d 0 := by simp [pv]
  rw [e1] at h1
  rw [Nat.le_div_iff_mul_le (Nat.pow_pos (by decide))]
  have h2 : 2 ≤ 2 ^ k := by
    calc 2 = 2 ^ 1 := rfl
      _ ≤ 2 ^ k := Nat.pow_le_pow_right (by decide) hk
  calc 2 * d 0 * 10 ^ (nd - 1) = d 0 * 10 ^ (nd - 1) * 2 := by rw [Nat.mul_comm 2, Nat.mul_assoc, Nat.mul_comm 2, ← Nat.mul_assoc]
    _ ≤ pv d nd * 2 ^ k := Nat.mul_le_mul h1 h2
end Go.Dec
namespace Go.Dec
def row (k : Nat) : Nat × List UInt8 := Pinned.cheatRows[k]?.getD (0, [])
def ed (k j : Nat) : Nat := ((row k).2[j]?.getD 48).toNat - 48
def cheatB (k : Nat) : Bool :=
  ((row k).2.all fun c => decide (48 ≤ c.toNat) && decide (c.toNat ≤ 57)) &&
  (decide (∀ j, j < (row k).2.length → ed k j ≤ 9) && decide (1 ≤ ed k ((row k).2.length - 1)) && decide (pv (ed k) (row k).2.length = 5 ^ k) && decide (10 ^ ((row k).2.length - 1) ≤ 5 ^ k) && decide (5 ^ k < 10 ^ (row k).2.length) && decide (1 ≤ (row k).2.length) && decide ((row k).2.length ≤ k) && decide ((row k).1 = k - (row k).2.length + 1))
set_option maxRecDepth 100000 in
theorem cheat_all : ∀ k, k < 60 → cheatB (k + 1) = true := by decide +kernel
theorem cheat_at {k : Nat} (h1 : 1 ≤ k) (h2 : k ≤ 60) : Cheat k (ed k) (row k).2.length (row k).1 ∧ ∀ c ∈ (row k).2, 48 ≤ c.toNat ∧ c.toNat ≤ 57 := by
  have h := cheat_all (k - 1) (by omega)
  rw [show k - 1 + 1 = k by omega] at h
  simp only [cheatB, Bool.and_eq_true, decide_eq_true_eq, List.all_eq_true] at h
  obtain ⟨h0, ⟨⟨⟨⟨⟨⟨⟨a, b⟩, c⟩, d⟩, e⟩, f⟩, g⟩, i⟩⟩ := h
  exact ⟨⟨a, b, c, d, e, f, g, i⟩, fun c hc => h0 c hc⟩
theorem rows_len : Pinned.cheatRows.length = 61 := by decide +kernel
theorem row_at {k : Nat} (h : k ≤ 60) : Pinned.cheatRows[k]? = some (row k) := by
  unfold row
  rw [List.getElem?_eq_getElem (by rw [rows_len]; omega)]
  rfl
end Go.Dec
namespace Go.Lx
/-- The units of a text: two bytes each; an odd byte at the end is left off. -/
def unitsOf : List UInt8 → List Nat
  | a :: b :: r => (a.toNat * 256 + b.toNat) :: unitsOf r
  | _ => []
def hx (n : Nat) : UInt8 := hexDigits.getD n 0
/-- How a unit is written. -/
def q1 (u : Nat) : List UInt8 :=
  if u = 34 ∨ u = 92 then [92, UInt8.ofNat u] else if 32 ≤ u ∧ u ≤ 126 then [UInt8.ofNat u]
  else [92, 117, hx (u / 4096 % 16), hx (u / 256 % 16), hx (u / 16 % 16), hx (u % 16)]
def quoteB (us : List Nat) : List UInt8 := [34] ++ us.flatMap q1 ++ [34]

theorem q1_ascii (u : Nat) : ∀ b ∈ q1 u, b.toNat < 128 := by
  have h16 : ∀ n : Fin 16, (hx n.val).toNat < 128 := by decide
  have hh : ∀ n, (hx (n % 16)).toNat < 128 := fun n => h16 ⟨n % 16, Nat.mod_lt _ (by decide)⟩
  intro b hb
  unfold q1 at hb
  split at hb
  · rename_i h
    rcases h with rfl | rfl <;> simp at hb <;> rcases hb with rfl | rfl <;> decide
  · split at hb
    · simp at hb
      subst hb
      simp; omega
    · simp at hb
      rcases hb with rfl | rfl | rfl | rfl | rfl | rfl <;> first | decide | exact hh _
theorem quote_ascii (us : List Nat) : ∀ b ∈ quoteB us, b.toNat < 128 := by
  intro b hb
  simp only [quoteB, List.mem_append, List.mem_singleton, List.mem_flatMap] at hb
  rcases hb with (rfl | ⟨u, _, h⟩) | rfl
  · decide
  · exact q1_ascii u b h
  · decide
theorem unitsOf_lt : ∀ (n : Nat) (l : List UInt8), l.length ≤ n → ∀ u ∈ unitsOf l, u < 65536
  | _, [], _, u, h => by simp [unitsOf] at h
  | _, [_], _, u, h => by simp [unitsOf] at h
  | 0, a :: b :: r, hn, u, h => by simp at hn
  | n + 1, a :: b :: r, hn, u, h => by
    simp only [unitsOf, List.mem_cons] at h
    rcases h with rfl | h
    · have := a.toNat_lt; have := b.toNat_lt; omega
    · exact unitsOf_lt n r (by simp at hn; omega) u h
theorem units_back : ∀ (n : Nat) (l : List UInt8), l.length ≤ n → (unitsOf l).flatMap u16 = l.take (l.length / 2 * 2)
  | _, [], _ => rfl
  | _, [_], _ => by simp [unitsOf]
  | 0, a :: b :: r, hn => by simp at hn
  | n + 1, a :: b :: r, hn => by
    have ih := units_back n r (by simp at hn; omega)
    have e : (a :: b :: r).length / 2 * 2 = (r.length / 2 * 2) + 2 := by simp; omega
    rw [e, List.take_succ_cons, List.take_succ_cons, unitsOf, List.flatMap_cons, ih]
    have ha := a.toNat_lt
    have hb := b.toNat_lt
    have e1 : (a.toNat * 256 + b.toNat) / 256 = a.toNat := by omega
    have e2 : UInt8.ofNat (a.toNat * 256 + b.toNat) = b := by
      apply UInt8.toNat_inj.1
      simp
    simp [u16, e1, e2]
theorem q1_len (u : Nat) : 1 ≤ (q1 u).length ∧ (q1 u).length ≤ 6 := by
  unfold q1
  split
  · simp
  · split <;> simp
theorem flat_len (us : List Nat) : us.length ≤ (us.flatMap q1).length ∧ (us.flatMap q1).length ≤ 6 * us.length := by
  induction us with
  | nil => simp
  | cons u us ih => have := q1_len u; simp only [List.flatMap_cons, List.length_append, List.length_cons]; omega
/-! ### what the model reads -/
theorem pk_drop {l r : List UInt8} {p : Nat} {c : UInt8} (h : l.drop p = c :: r) : pk l p = c := by
  have : l[p]? = some c := by
    have h1 : (l.drop p)[0]? = some c := by rw [h]; rfl
    simpa using h1
  simp [pk, this]
theorem drop_next {l r : List UInt8} {p : Nat} {c : UInt8} (h : l.drop p = c :: r) : l.drop (p + 1) = r := by
  rw [← List.drop_drop, h]; rfl
theorem lt_drop {l r : List UInt8} {p : Nat} {c : UInt8} (h : l.drop p = c :: r) : p < l.length := by
  rcases Nat.lt_or_ge p l.length with h' | h'
  · exact h'
  · rw [List.drop_eq_nil_of_le h'] at h; cases h
theorem dec_head (c : UInt8) (r : List UInt8) (hc : c.toNat < 128) : Lib.decodeL (c :: r) = (c.toNat, 1) := by
  have hb : ((⟨(c :: r).toArray⟩ : ByteArray).get! 0) = c := rfl
  have hs : (⟨(c :: r).toArray⟩ : ByteArray).size = r.length + 1 := by simp [ByteArray.size]
  unfold Lib.decodeL Utf8.decode
  simp [hb, hc]
theorem plain_head {l r : List UInt8} {p : Nat} {c : UInt8} (h : l.drop p = c :: r) (hc : c.toNat < 128) : plain l p = (u16 c.toNat, p + 1) := by
  unfold plain
  rw [h, dec_head c r hc]
  have h1 : ¬ (1114111 < c.toNat) := by omega
  have h2 : c.toNat < 65536 := by omega
  simp [pointB, h1, h2]
/-- The text's body. -/
theorem textGo_quote (l : List UInt8) : ∀ (us : List Nat) (f p : Nat) (acc : List UInt8), (∀ u ∈ us, u < 65536) → us.length < f → l.drop p = us.flatMap q1 ++ [34] →
    textGo l 34 f p acc = some (acc ++ us.flatMap u16, p + (us.flatMap q1).length + 1)
  | [], f, p, acc, _, hf, h => by
    obtain ⟨f, rfl⟩ : ∃ f', f = f' + 1 := ⟨f - 1, by simp at hf; omega⟩
    have h : l.drop p = 34 :: [] := h
    have hp := pk_drop h
    have hl := lt_drop h
    simp only [textGo, hp]
    rw [if_neg (by simp; omega)]
    simp
  | u :: us, f, p, acc, hu, hf, h => by
    obtain ⟨f, rfl⟩ : ∃ f', f = f' + 1 := ⟨f - 1, by simp at hf; omega⟩
    have hu0 := hu u (by simp)
    have ih := fun q a h => textGo_quote l us f q a (fun v hv => hu v (by simp [hv])) (by simp at hf; omega) h
    rw [List.flatMap_cons, List.append_assoc] at h
    by_cases h1 : u = 34 ∨ u = 92
    · have hq : q1 u = [92, UInt8.ofNat u] := by simp [q1, h1]
      rw [hq] at h
      have h : l.drop p = 92 :: (UInt8.ofNat u :: (us.flatMap q1 ++ [34])) := h
      have hp := pk_drop h
      have hl := lt_drop h
      have hd1 := drop_next h
      have hl1 := lt_drop hd1
      have hp1 := pk_drop hd1
      have hd2 := drop_next hd1
      have hpl := plain_head hd1 (by rcases h1 with rfl | rfl <;> decide)
      have hesc : escape l (p + 1) = some (u16 u, p + 2) := by
        unfold escape
        have hpre : ∀ t, pre t l (p + 1) = t.isPrefixOf (UInt8.ofNat u :: (us.flatMap q1 ++ [34])) := fun t => by unfold pre; rw [hd1]
        have hnl : nl l (p + 1) = none := by
          unfold nl firstOf nls
          rcases h1 with rfl | rfl <;> simp [hpre, List.isPrefixOf]
        rw [hnl, hpl, hp1, hpre]
        rcases h1 with rfl | rfl
        · simp [Lib.indexByte, escs, isDig, List.isPrefixOf]; omega
        · simp [Lib.indexByte, escs, isDig, List.isPrefixOf]; omega
      simp only [textGo, hp]
      rw [if_neg (by simp; omega), hesc]
      simp only
      rw [ih (p + 2) _ hd2, List.flatMap_cons, List.flatMap_cons, hq]
      simp; omega
    · by_cases h2 : 32 ≤ u ∧ u ≤ 126
      · have hq : q1 u = [UInt8.ofNat u] := by simp [q1, h1, h2]
        rw [hq] at h
        have h : l.drop p = UInt8.ofNat u :: (us.flatMap q1 ++ [34]) := h
        have hp := pk_drop h
        have hl := lt_drop h
        have hd1 := drop_next h
        have hn : (UInt8.ofNat u).toNat = u := by simp; omega
        have hpl := plain_head h (by omega)
        rw [hn] at hpl
        have e1 : UInt8.ofNat u ≠ 10 := fun e => by have := congrArg UInt8.toNat e; rw [hn] at this; simp at this; omega
        have e2 : UInt8.ofNat u ≠ 13 := fun e => by have := congrArg UInt8.toNat e; rw [hn] at this; simp at this; omega
        have e3 : UInt8.ofNat u ≠ 34 := fun e => by have := congrArg UInt8.toNat e; rw [hn] at this; simp at this; omega
        have e4 : UInt8.ofNat u ≠ 92 := fun e => by have := congrArg UInt8.toNat e; rw [hn] at this; simp at this; omega
        simp only [textGo, hp]
        rw [if_neg (by simp [e1, e2]; omega)]
        simp only [beq_iff_eq, e3, e4, if_false]
        rw [hpl, ih (p + 1) _ hd1, List.flatMap_cons, List.flatMap_cons, hq]
        simp; omega
      · have hq : q1 u = [92, 117, hx (u / 4096 % 16), hx (u / 256 % 16), hx (u / 16 % 16), hx (u % 16)] := by simp only [q1, h1, h2, if_false]
        rw [hq] at h
        have h : l.drop p = 92 :: 117 :: hx (u / 4096 % 16) :: hx (u / 256 % 16) :: hx (u / 16 % 16) :: hx (u % 16) :: (us.flatMap q1 ++ [34]) := h
        have hp := pk_drop h
        have hl := lt_drop h
        have hd1 := drop_next h
        have hl1 := lt_drop hd1
        have hp1 := pk_drop hd1
        have hd2 := drop_next hd1
        have hp2 := pk_drop hd2
        have hd3 := drop_next hd2
        have hp3 := pk_drop hd3
        have hd4 := drop_next hd3
        have hp4 := pk_drop hd4
        have hd5 := drop_next hd4
        have hp5 := pk_drop hd5
        have hd6 := drop_next hd5
        have hx0 : ∀ n : Fin 16, hexd (hx n.val) = some n.val ∧ hx n.val ≠ 123 := by decide
        have hx1 : ∀ n, hexd (hx (n % 16)) = some (n % 16) ∧ hx (n % 16) ≠ 123 := fun n => hx0 ⟨n % 16, Nat.mod_lt _ (by decide)⟩
        have hhex : hex l 4 4 (p + 1 + 1) = some (u, p + 6) := by
          unfold hex
          have a1 : ¬ (1114111 < 16 * 0 + u / 4096 % 16) := by omega
          have a2 : ¬ (1114111 < 16 * (16 * 0 + u / 4096 % 16) + u / 256 % 16) := by omega
          have a3 : ¬ (1114111 < 16 * (16 * (16 * 0 + u / 4096 % 16) + u / 256 % 16) + u / 16 % 16) := by omega
          have a4 : ¬ (1114111 < 16 * (16 * (16 * (16 * 0 + u / 4096 % 16) + u / 256 % 16) + u / 16 % 16) + u % 16) := by omega
          simp only [hexGo, hp2, hp3, hp4, hp5, (hx1 _).1, a1, a2, a3, a4, if_false]
          simp; omega
        have hesc : escape l (p + 1) = some (u16 u, p + 6) := by
          unfold escape
          have hpre : ∀ t, pre t l (p + 1) = t.isPrefixOf _ := fun t => by unfold pre; rw [hd1]
          have hnl : nl l (p + 1) = none := by
            unfold nl firstOf nls
            simp [hpre, List.isPrefixOf]
          rw [hnl, hp1, hpre, hhex, hp2]
          have hb : (hx (u / 4096 % 16) == 123) = false := by simpa using (hx1 (u / 4096)).2
          rw [hb]
          simp [Lib.indexByte, escs, isDig, List.isPrefixOf]; omega
        simp only [textGo, hp]
        rw [if_neg (by simp; omega), hesc]
        simp only
        rw [ih (p + 6) _ hd6, List.flatMap_cons, List.flatMap_cons, hq]
        simp; omega
end Go.Lx
namespace Go.Lx
theorem pre_iff {t l : List UInt8} {p : Nat} : pre t l p = true ↔ ∀ k, k < t.length → l[p + k]? = t[k]? := by
  unfold pre
  rw [List.isPrefixOf_iff_prefix, List.prefix_iff_getElem?]
  constructor
  · intro h k hk
    have := h k hk
    rw [List.getElem?_drop] at this
    rw [this, List.getElem?_eq_getElem hk]
  · intro h k hk
    rw [List.getElem?_drop, h k hk, List.getElem?_eq_getElem hk]
/-- A gap from p to r: ends of lines and blanks, comments to the end of the line (its end is not theirs), comments in brackets. -/
inductive Gap (l : List UInt8) : Nat → Nat → Prop where
  | done (p : Nat) : Gap l p p
  | txt (t : List UInt8) (p r : Nat) : t ∈ nls ∨ t ∈ bls → pre t l p = true → Gap l (p + t.length) r → Gap l p r
  | line (p j r : Nat) : pre [47, 47] l p = true → p ≤ j → (∀ i, p ≤ i → i < j → ∀ t ∈ nls, pre t l i = false) → (j = l.length ∨ ∃ t ∈ nls, pre t l j = true) → Gap l j r → Gap l p r
  | block (p j r : Nat) : pre [47, 42] l p = true → p + 2 ≤ j → (∀ i, p + 2 ≤ i → i < j → pre [42, 47] l i = false) → pre [42, 47] l j = true → Gap l (j + 2) r → Gap l p r
theorem Gap.le {l : List UInt8} {p r : Nat} (h : Gap l p r) : p ≤ r := by
  induction h with
  | done p => exact Nat.le_refl _
  | txt t p r _ _ _ ih => omega
  | line p j r _ h _ _ _ ih => omega
  | block p j r _ h _ _ _ ih => omega
theorem Gap.trans {l : List UInt8} {p q r : Nat} (h : Gap l p q) (h2 : Gap l q r) : Gap l p r := by
  induction h with
  | done p => exact h2
  | txt t p r a b _ ih => exact .txt t p _ a b (ih h2)
  | line p j r a b c d _ ih => exact .line p j _ a b c d (ih h2)
  | block p j r a b c d _ ih => exact .block p j _ a b c d (ih h2)
/-- g is the piece of l from a to b with a byte 10 behind it. -/
structure Cut (l g : List UInt8) (a b : Nat) : Prop where
  ab : a ≤ b
  bl : b ≤ l.length
  len : g.length = b - a + 1
  eq : ∀ k, k < b - a → g[k]? = l[a + k]?
  nl : g[b - a]? = some 10
theorem cut_of {l : List UInt8} {a b : Nat} (h : a ≤ b) (hb : b ≤ l.length) : Cut l ((l.drop a).take (b - a) ++ [10]) a b := by
  have hlen : ((l.drop a).take (b - a)).length = b - a := by simp; omega
  refine ⟨h, hb, by simp; omega, fun k hk => ?_, ?_⟩
  · rw [List.getElem?_append_left (by omega), List.getElem?_take, if_pos hk, List.getElem?_drop]
  · rw [List.getElem?_append_right (by omega), hlen, Nat.sub_self]; rfl
theorem Cut.pre_to {l g : List UInt8} {a b : Nat} (h : Cut l g a b) {t : List UInt8} {p : Nat} (hp : a ≤ p) (hq : p + t.length ≤ b) (ht : pre t l p = true) : pre t g (p - a) = true := by
  rw [pre_iff] at ht ⊢
  intro k hk
  rw [← ht k hk, h.eq _ (by omega)]
  congr 1; omega
/-- A text without a byte 10 that stands in g stands in l. -/
theorem Cut.pre_from {l g : List UInt8} {a b : Nat} (h : Cut l g a b) {t : List UInt8} (h10 : (10 : UInt8) ∉ t) {p : Nat} (hp : a ≤ p) (hpb : p < b) (ht : pre t g (p - a) = true) : pre t l p = true := by
  rw [pre_iff] at ht ⊢
  have hin : ∀ k, k < t.length → p - a + k < b - a := by
    intro k
    induction k with
    | zero => intro _; omega
    | succ k ih =>
      intro hk
      have h1 := ih (by omega)
      rcases Nat.lt_or_ge (p - a + (k + 1)) (b - a) with h2 | h2
      · exact h2
      · have e : p - a + (k + 1) = b - a := by omega
        have h3 := ht (k + 1) hk
        rw [e, h.nl] at h3
        exact absurd (List.mem_of_getElem? h3.symm) h10
  intro k hk
  rw [← ht k hk, h.eq _ (hin k hk)]
  congr 1; omega
theorem Cut.no_nl {l g : List UInt8} {a b : Nat} (h : Cut l g a b) {p : Nat} (hp : a ≤ p) (hpb : p < b) (hn : ∀ t ∈ nls, pre t l p = false) : ∀ t ∈ nls, pre t g (p - a) = false := by
  intro t ht
  cases hx : pre t g (p - a) with
  | false => rfl
  | true =>
    exfalso
    by_cases h10 : t = [10]
    · subst h10
      rw [pre_iff] at hx
      have h1 := hx 0 (by simp)
      have h2 := hn _ ht
      have h3 : pre [10] l p = true := by
        rw [pre_iff]
        intro k hk
        have : k = 0 := by simp at hk; omega
        subst this
        rw [← h1, h.eq _ (by omega)]
        congr 1; omega
      rw [h3] at h2; cases h2
    · have h4 : (10 : UInt8) ∉ t := by
        simp only [nls, List.mem_cons, List.not_mem_nil, or_false] at ht
        rcases ht with rfl | rfl | rfl | rfl
        · exact absurd rfl h10
        · decide
        · decide
        · decide
      have h5 := h.pre_from h4 hp hpb hx
      rw [hn t ht] at h5; cases h5
/-- The gap, and the byte behind it. -/
theorem Gap.cut {l g : List UInt8} {a b : Nat} (h : Cut l g a b) {p r : Nat} (hG : Gap l p r) (hr : r = b) (hp : a ≤ p) : Gap g (p - a) g.length := by
  have hend : Gap g (b - a) g.length := by
    refine .txt [10] _ _ (Or.inl (by decide)) ?_ ?_
    · rw [pre_iff]
      intro k hk
      have : k = 0 := by simp at hk; omega
      subst this
      rw [Nat.add_zero, h.nl]; rfl
    · rw [h.len]; exact .done _
  induction hG with
  | done p => subst hr; exact hend
  | txt t p r ht hpre hg ih =>
    have hle := hg.le
    refine .txt t _ _ ht (h.pre_to hp (by omega) hpre) ?_
    have := ih hr (by omega)
    rwa [show p + t.length - a = p - a + t.length by omega] at this
  | line p j r hpre hpj hno hj hg ih =>
    have hle := hg.le
    have hlen2 : p + 2 ≤ l.length := by
      rw [pre_iff] at hpre
      have := hpre 1 (by simp)
      have h1 : l[p + 1]? = some 47 := this
      have := (List.getElem?_eq_some_iff.1 h1).1
      omega
    have hj2 : p + 2 ≤ j := by
      rw [pre_iff] at hpre
      have h0 : l[p + 0]? = some 47 := hpre 0 (by simp)
      have h1 : l[p + 1]? = some 47 := hpre 1 (by simp)
      rcases hj with hj | ⟨t, ht, hx⟩
      · omega
      · rw [pre_iff] at hx
        have ht0 : 0 < t.length := by
          simp only [nls, List.mem_cons, List.not_mem_nil, or_false] at ht
          rcases ht with rfl | rfl | rfl | rfl <;> simp
        have h2 := hx 0 ht0
        have hne : t[0]? ≠ some 47 := by
          simp only [nls, List.mem_cons, List.not_mem_nil, or_false] at ht
          rcases ht with rfl | rfl | rfl | rfl <;> decide
        rcases Nat.lt_or_ge j (p + 2) with hlt | hge
        · exfalso
          have : j = p ∨ j = p + 1 := by omega
          rcases this with rfl | rfl
          · exact hne (by rw [← h2]; exact h0)
          · exact hne (by rw [← h2]; exact h1)
        · exact hge
    refine .line _ (j - a) _ (h.pre_to hp (by simp; omega) hpre) (by omega) ?_ ?_ (ih hr (by omega))
    · intro i hi1 hi2
      have := h.no_nl (p := a + i) (by omega) (by omega) (hno (a + i) (by omega) (by omega))
      rwa [show a + i - a = i by omega] at this
    · right
      rcases Nat.lt_or_ge j b with hjb | hjb
      · rcases hj with hj | ⟨t, ht, hx⟩
        · have := h.bl; omega
        · have hfit : j + t.length ≤ b := by
            -- the gap goes on behind j with the end of the line
            clear ih
            cases hg with
            | done => omega
            | txt t2 _ _ ht2 hx2 hg2 =>
              have hle2 := hg2.le
              have e : t.length = t2.length := by
                rw [pre_iff] at hx hx2
                have hc : ∀ u ∈ nls ++ bls, 0 < u.length ∧ ∀ k, k < u.length → l[j + k]? = u[k]? → True := fun u hu => ⟨by revert u; decide, fun _ _ _ => trivial⟩
                have hm2 : t2 ∈ nls ++ bls := by
                  rcases ht2 with h | h
                  · exact List.mem_append_left _ h
                  · exact List.mem_append_right _ h
                have p1 := hx 0 (hc t (List.mem_append_left _ ht)).1
                have p2 := hx2 0 (hc t2 hm2).1
                have : t[0]? = t2[0]? := by rw [← p1, ← p2]
                revert this
                have key : ∀ u ∈ nls, ∀ v ∈ nls ++ bls, u[0]? = v[0]? → u.length = v.length := by decide
                exact key t ht t2 hm2
              omega
            | line _ j' _ hx2 hj2 _ _ hg2 =>
              exfalso
              rw [pre_iff] at hx hx2
              have p2 : l[j + 0]? = some 47 := hx2 0 (by simp)
              have key : ∀ u ∈ nls, 0 < u.length ∧ u[0]? ≠ some 47 := by decide
              have k := key t ht
              exact k.2 (by rw [← hx 0 k.1]; exact p2)
            | block _ j' _ hx2 hj2 _ _ hg2 =>
              exfalso
              rw [pre_iff] at hx hx2
              have p2 : l[j + 0]? = some 47 := hx2 0 (by simp)
              have key : ∀ u ∈ nls, 0 < u.length ∧ u[0]? ≠ some 47 := by decide
              have k := key t ht
              exact k.2 (by rw [← hx 0 k.1]; exact p2)
          exact ⟨t, ht, h.pre_to (by omega) hfit hx⟩
      · have e : j = b := by omega
        subst e
        refine ⟨[10], by decide, ?_⟩
        rw [pre_iff]
        intro k hk
        have : k = 0 := by simp at hk; omega
        subst this
        rw [Nat.add_zero, h.nl]; rfl
  | block p j r hpre hpj hno hx hg ih =>
    have hle := hg.le
    refine .block _ (j - a) _ (h.pre_to hp (by simp; omega) hpre) (by omega) ?_ (h.pre_to (by omega) (by simp; omega) hx) ?_
    · intro i hi1 hi2
      cases hy : pre [42, 47] g i with
      | false => rfl
      | true =>
        have := h.pre_from (t := [42, 47]) (by decide) (p := a + i) (by omega) (by omega) (by rw [show a + i - a = i by omega]; exact hy)
        rw [hno (a + i) (by omega) (by omega)] at this; cases this
    · have := ih hr (by omega)
      rwa [show j + 2 - a = j - a + 2 by omega] at this
end Go.Lx
namespace Go.Lx
def bn (l : List UInt8) (i : Nat) : Nat := (l[i]?.getD 0).toNat
def cont (b : Nat) : Prop := 128 ≤ b ∧ b ≤ 191
def c3 (b0 b1 b2 : Nat) : Nat := (b0 - 224) * 4096 + (b1 - 128) * 64 + (b2 - 128)
def c4 (b0 b1 b2 b3 : Nat) : Nat := (b0 - 240) * 262144 + (b1 - 128) * 4096 + (b2 - 128) * 64 + (b3 - 128)
/-- n bytes that are a code point. -/
def GoodN (n b0 b1 b2 b3 : Nat) : Prop :=
  (n = 1 ∧ b0 < 128) ∨ (n = 2 ∧ 194 ≤ b0 ∧ b0 ≤ 223 ∧ cont b1) ∨ (n = 3 ∧ 224 ≤ b0 ∧ b0 ≤ 239 ∧ cont b1 ∧ cont b2 ∧ 2048 ≤ c3 b0 b1 b2 ∧ (c3 b0 b1 b2 < 55296 ∨ 57344 ≤ c3 b0 b1 b2)) ∨
  (n = 4 ∧ 240 ≤ b0 ∧ b0 ≤ 244 ∧ cont b1 ∧ cont b2 ∧ cont b3 ∧ 65536 ≤ c4 b0 b1 b2 b3 ∧ c4 b0 b1 b2 b3 ≤ 1114111)
def GoodAt (l : List UInt8) (i n : Nat) : Prop := i + n ≤ l.length ∧ GoodN n (bn l i) (bn l (i + 1)) (bn l (i + 2)) (bn l (i + 3))
theorem bn_lt (l : List UInt8) (i : Nat) : bn l i < 256 := UInt8.toNat_lt _
set_option maxRecDepth 100000 in
set_option maxHeartbeats 2000000 in
theorem good_of_decode {m b0 b1 b2 b3 r n : Nat} (h0 : b0 < 256) (h1 : b1 < 256) (h2 : b2 < 256) (h3 : b3 < 256) (hm : 1 ≤ m) (h : Lib.decodeN m b0 b1 b2 b3 = (r, n)) (hr : r ≠ 65533 ∨ 3 ≤ n) : n ≤ m ∧ GoodN n b0 b1 b2 b3 := by
  unfold Lib.decodeN at h
  unfold GoodN cont c3 c4
  repeat' split at h
  all_goals
    injection h with h5 h6
    subst h5 h6
  all_goals
    first
    | (exfalso; omega)
    | (refine ⟨by omega, ?_⟩; first | exact Or.inl ⟨by omega, by omega⟩ | exact Or.inr (Or.inl ⟨by omega, by omega, by omega, by omega, by omega⟩) | (refine Or.inr (Or.inr (Or.inl ⟨by omega, by omega, by omega, ⟨by omega, by omega⟩, ⟨by omega, by omega⟩, by omega, by omega⟩))) | (refine Or.inr (Or.inr (Or.inr ⟨by omega, by omega, by omega, ⟨by omega, by omega⟩, ⟨by omega, by omega⟩, ⟨by omega, by omega⟩, by omega, by omega⟩))))
inductive Chain (l : List UInt8) : Nat → Nat → Prop where
  | done (i : Nat) : Chain l i i
  | step (i n j : Nat) : GoodAt l i n → Chain l (i + n) j → Chain l i j
theorem GoodN.pos {n b0 b1 b2 b3 : Nat} (h : GoodN n b0 b1 b2 b3) : 1 ≤ n ∧ n ≤ 4 := by
  unfold GoodN at h; omega
theorem Chain.le {l : List UInt8} {i j : Nat} (h : Chain l i j) : i ≤ j := by
  induction h with
  | done => exact Nat.le_refl _
  | step i n j h _ ih => omega
theorem Chain.trans {l : List UInt8} {i j k : Nat} (h : Chain l i j) (h2 : Chain l j k) : Chain l i k := by
  induction h with
  | done => exact h2
  | step i n j h _ ih => exact .step i n _ h (ih h2)
theorem Chain.snoc {l : List UInt8} {i j n : Nat} (h : Chain l i j) (h2 : GoodAt l j n) : Chain l i (j + n) := h.trans (.step _ _ _ h2 (.done _))
/-- The bytes of a code point of more than one byte are all 128 or more. -/
theorem GoodAt.high {l : List UInt8} {i n : Nat} (h : GoodAt l i n) (hn : 2 ≤ n) {k : Nat} (hk : k < n) : 128 ≤ bn l (i + k) := by
  obtain ⟨_, h⟩ := h
  unfold GoodN cont at h
  have : k = 0 ∨ k = 1 ∨ k = 2 ∨ k = 3 := by omega
  rcases this with rfl | rfl | rfl | rfl
  · rw [Nat.add_zero]; omega
  · omega
  · omega
  · omega
theorem Chain.split {l : List UInt8} {i j : Nat} (h : Chain l i j) {p : Nat} (hi : i ≤ p) (hj : p ≤ j) (hp : p = i ∨ p = j ∨ bn l p < 128 ∨ bn l (p - 1) < 128) : Chain l i p ∧ Chain l p j := by
  induction h with
  | done i =>
    have : p = i := by omega
    subst this
    exact ⟨.done _, .done _⟩
  | step i n j hg hc ih =>
    by_cases hpi : p = i
    · subst hpi
      exact ⟨.done _, .step _ _ _ hg hc⟩
    · have hpn : i + n ≤ p := by
        rcases Nat.lt_or_ge p (i + n) with hlt | hge
        · exfalso
          have h1 := hg.high (by omega) (k := p - i) (by omega)
          have h2 := hg.high (by omega) (k := p - 1 - i) (by omega)
          rw [show i + (p - i) = p by omega] at h1
          rw [show i + (p - 1 - i) = p - 1 by omega] at h2
          have := hc.le
          omega
        · exact hge
      by_cases hpe : p = i + n
      · subst hpe
        exact ⟨.step _ _ _ hg (.done _), hc⟩
      · obtain ⟨h1, h2⟩ := ih hpn hj (by omega)
        exact ⟨.step _ _ _ hg h1, h2⟩
theorem Cut.bn {l g : List UInt8} {a b : Nat} (h : Cut l g a b) {k : Nat} (hk : k < b - a) : bn g k = bn l (a + k) := by
  unfold Lx.bn; rw [h.eq k hk]
theorem Cut.good {l g : List UInt8} {a b : Nat} (h : Cut l g a b) {i n : Nat} (ha : a ≤ i) (hb : i + n ≤ b) (hg : GoodAt l i n) : GoodAt g (i - a) n := by
  have hn := hg.2.pos
  refine ⟨by have := h.len; omega, ?_⟩
  have e0 : Lx.bn g (i - a) = Lx.bn l i := by rw [h.bn (by omega)]; congr 1; omega
  have e : ∀ k, k < n → Lx.bn g (i - a + k) = Lx.bn l (i + k) := fun k hk => by rw [h.bn (by omega)]; congr 1; omega
  obtain ⟨_, hg⟩ := hg
  have h4 : n = 1 ∨ n = 2 ∨ n = 3 ∨ n = 4 := by omega
  rw [e0]
  rcases h4 with rfl | rfl | rfl | rfl
  · unfold GoodN cont at hg ⊢; omega
  · rw [e 1 (by omega)]; unfold GoodN cont at hg ⊢; omega
  · rw [e 1 (by omega), e 2 (by omega)]; unfold GoodN cont at hg ⊢; omega
  · rw [e 1 (by omega), e 2 (by omega), e 3 (by omega)]; exact hg
theorem Chain.cut {l g : List UInt8} {a b : Nat} (h : Cut l g a b) {i j : Nat} (hc : Chain l i j) (hj : j = b) (ha : a ≤ i) : Chain g (i - a) g.length := by
  induction hc with
  | done i =>
    subst hj
    have hb : Lx.bn g (i - a) = 10 := by unfold Lx.bn; rw [h.nl]; rfl
    have hg : GoodAt g (i - a) 1 := ⟨by have := h.len; omega, Or.inl ⟨rfl, by omega⟩⟩
    have := Chain.step (i - a) 1 (i - a + 1) hg (.done _)
    rwa [← h.len] at this
  | step i n j hg hc ih =>
    have hle := hc.le
    refine .step _ n _ (h.good ha (by omega) hg) ?_
    have := ih hj (by omega)
    rwa [show i + n - a = i - a + n by omega] at this
end Go.Lx
namespace Go.Lx
/-- Where the token ahead of the i-th ends. -/
def endAt (ts : List Tok) : Nat → Nat
  | 0 => 0
  | i + 1 => match ts[i]? with | some t => t.till | none => 0
/-- A place at which a code point begins for sure. -/
def Edge (l : List UInt8) (p : Nat) : Prop := p = 0 ∨ bn l (p - 1) < 128
structure CovT (l : List UInt8) (a : Nat) (t : Tok) : Prop where
  ge : a ≤ t.frm
  ft : t.frm ≤ t.till
  sz : t.till ≤ l.length
  ne : t.tk.kind ≠ 0 → t.frm < t.till
  gap : Gap l a t.frm
  b1 : Edge l a
  b2 : t.frm = l.length ∨ bn l t.frm < 128
def Cov (l : List UInt8) (ts : List Tok) : Prop := ∀ i t, ts[i]? = some t → CovT l (endAt ts i) t
theorem endAt_left (ts : List Tok) (t : Tok) {i : Nat} (hi : i ≤ ts.length) : endAt (ts ++ [t]) i = endAt ts i := by
  cases i with
  | zero => rfl
  | succ i =>
    simp only [endAt]
    rw [List.getElem?_append_left (by omega)]
theorem endAt_last (ts : List Tok) (t : Tok) : endAt (ts ++ [t]) (ts.length + 1) = t.till := by
  simp [endAt]
theorem cov_nil (l : List UInt8) : Cov l [] := fun i t h => by simp at h
theorem cov_snoc {l : List UInt8} {ts : List Tok} {t : Tok} (h : Cov l ts) (ht : CovT l (endAt ts ts.length) t) : Cov l (ts ++ [t]) := by
  intro i u hu
  rcases Nat.lt_or_ge i ts.length with hi | hi
  · rw [List.getElem?_append_left hi] at hu
    rw [endAt_left _ _ (by omega)]
    exact h i u hu
  · rw [List.getElem?_append_right hi] at hu
    have e : i = ts.length := by
      rcases Nat.lt_or_ge (i - ts.length) 1 with h1 | h1
      · omega
      · rw [List.getElem?_eq_none (by simp; omega)] at hu; cases hu
    subst e
    simp at hu
    subst hu
    rw [endAt_left _ _ (Nat.le_refl _)]
    exact ht
/-- The gap ahead of a token, with an end of a line behind it: it is skipped whole, and it is UTF-8. -/
theorem CovT.piece {l : List UInt8} {a : Nat} {t : Tok} (h : CovT l a t) (hc : Chain l 0 l.length) : Gap ((l.drop a).take (t.frm - a) ++ [10]) 0 (t.frm - a + 1) ∧ Chain ((l.drop a).take (t.frm - a) ++ [10]) 0 (t.frm - a + 1) := by
  have hft := h.ft
  have hsz := h.sz
  have hge := h.ge
  have hcut := cut_of h.ge (show t.frm ≤ l.length by omega)
  have h1 : Chain l a t.frm := by
    have hA := (hc.split (p := a) (by omega) (by omega) (by rcases h.b1 with h | h; exact Or.inl h; exact Or.inr (Or.inr (Or.inr h)))).2
    refine (hA.split (p := t.frm) (by omega) (by omega) ?_).1
    rcases h.b2 with h | h
    · exact Or.inr (Or.inl h)
    · exact Or.inr (Or.inr (Or.inl h))
  have g1 := Gap.cut hcut h.gap rfl (Nat.le_refl _)
  have g2 := Chain.cut hcut h1 rfl (Nat.le_refl _)
  rw [Nat.sub_self, hcut.len] at g1 g2
  exact ⟨g1, g2⟩
end Go.Lx
namespace Go.Lx
def OpnB (opn : List Int) (p : Nat) : Prop := opn.length ≤ p ∧ ∀ m ∈ opn, 0 ≤ m ∧ m ≤ p
theorem u8_allG {P : UInt8 → Prop} (h : ∀ n : Fin 256, P (UInt8.ofNat n.val)) : ∀ c, P c := fun c => by
  have := h ⟨c.toNat, c.toNat_lt⟩
  simpa using this
theorem isLet_low : ∀ c : UInt8, isLet c = true → c.toNat < 128 := u8_allG (by decide +kernel)
theorem isDig_low : ∀ c : UInt8, isDig c = true → c.toNat < 128 := u8_allG (by decide +kernel)
theorem bn_pk (l : List UInt8) (p : Nat) : bn l p = (pk l p).toNat := rfl
theorem nameEnd_ok (l : List UInt8) : ∀ f p, p + f = l.length → (p < nameEnd l f p → bn l (nameEnd l f p - 1) < 128) ∧ p ≤ nameEnd l f p ∧ nameEnd l f p ≤ l.length
  | 0, p, h => ⟨fun x => absurd x (Nat.lt_irrefl _), Nat.le_refl _, by simp only [nameEnd]; omega⟩
  | f + 1, p, h => by
    simp only [nameEnd]
    split
    · rename_i hc
      have ih := nameEnd_ok l f (p + 1) (by omega)
      refine ⟨fun _ => ?_, by omega, ih.2.2⟩
      by_cases e : p + 1 < nameEnd l f (p + 1)
      · exact ih.1 e
      · have e2 : nameEnd l f (p + 1) = p + 1 := by omega
        rw [e2, show p + 1 - 1 = p by omega, bn_pk]
        rcases Bool.or_eq_true _ _ ▸ hc with hc | hc
        · exact isLet_low _ hc
        · exact isDig_low _ hc
    · exact ⟨fun x => absurd x (Nat.lt_irrefl _), Nat.le_refl _, by omega⟩
theorem textGo_ok (l : List UInt8) (q : UInt8) : ∀ f p acc u r, textGo l q f p acc = some (u, r) → p < r ∧ r ≤ l.length ∧ pk l (r - 1) = q
  | 0, p, acc, u, r, h => by simp [textGo] at h
  | f + 1, p, acc, u, r, h => by
    rw [textGo] at h
    split at h
    · cases h
    rename_i hn
    have hlt : p < l.length := by omega
    split at h
    · rename_i hq
      simp only [Option.some.injEq, Prod.mk.injEq] at h
      obtain ⟨_, rfl⟩ := h
      exact ⟨by omega, by omega, by simpa using hq⟩
    split at h
    · split at h
      · cases h
      · rename_i u' p' he
        have h1 := escape_le he
        have ih := textGo_ok l q f _ _ _ _ h
        exact ⟨by omega, ih.2.1, ih.2.2⟩
    · have h1 := plain_le hlt
      have ih := textGo_ok l q f _ _ _ _ h
      exact ⟨by omega, ih.2.1, ih.2.2⟩
theorem pieceGo_ok (l : List UInt8) : ∀ f p acc u r c, pieceGo l f p acc = some (u, r, c) → p < r ∧ r ≤ l.length ∧ bn l (r - 1) < 128
  | 0, p, acc, u, r, c, h => by simp [pieceGo] at h
  | f + 1, p, acc, u, r, c, h => by
    rw [pieceGo] at h
    split at h
    · cases h
    rename_i hn
    have hlt : p < l.length := by omega
    split at h
    · rename_i hq
      simp only [Option.some.injEq, Prod.mk.injEq] at h
      obtain ⟨_, rfl, _⟩ := h
      have hq : pk l p = 96 := by simpa using hq
      exact ⟨by omega, by omega, by rw [bn_pk, show p + 1 - 1 = p by omega, hq]; decide⟩
    split at h
    · rename_i hq
      simp only [Option.some.injEq, Prod.mk.injEq] at h
      obtain ⟨_, rfl, _⟩ := h
      have h1 := pre_le hq (by omega)
      simp at h1
      rw [pre_iff] at hq
      have h2 : l[p + 1]? = some 123 := hq 1 (by simp)
      refine ⟨by omega, by omega, ?_⟩
      unfold bn
      rw [show p + 2 - 1 = p + 1 by omega, h2]; decide
    split at h
    · rename_i hq
      have ih := pieceGo_ok l f _ _ _ _ _ h
      split at ih <;> exact ⟨by omega, ih.2.1, ih.2.2⟩
    split at h
    · split at h
      · cases h
      · rename_i u' p' he
        have h1 := escape_le he
        have ih := pieceGo_ok l f _ _ _ _ _ h
        exact ⟨by omega, ih.2.1, ih.2.2⟩
    · have h1 := plain_le hlt
      have ih := pieceGo_ok l f _ _ _ _ _ h
      exact ⟨by omega, ih.2.1, ih.2.2⟩
theorem opn_up {opn : List Int} {p q : Nat} (h : OpnB opn p) (hpq : p ≤ q) : OpnB opn q := ⟨by have := h.1; omega, fun m hm => by have := h.2 m hm; omega⟩
/-- What is known of a token that is told. -/
def TokOk (l : List UInt8) (p : Nat) (tk : Tk) (q : Nat) (opn' : List Int) : Prop := bn l p < 128 ∧ p < q ∧ q ≤ l.length ∧ Edge l q ∧ OpnB opn' q ∧ tk.kind ≠ 0
theorem edge_of {l : List UInt8} {q : Nat} (h : bn l (q - 1) < 128) : Edge l q := Or.inr h
theorem piece_ok {l : List UInt8} {whole part p : Nat} {opn : List Int} {tk : Tk} {q : Nat} {opn' : List Int} (hw : whole ≠ 0) (hpt : part ≠ 0) (hb : bn l p < 128) (ho : OpnB opn p) (h : piece l whole part p opn = .ok (tk, q, opn')) : TokOk l p tk q opn' := by
  unfold piece at h
  split at h
  · cases h
  · rename_i u r hg
    have h1 := pieceGo_ok _ _ _ _ _ _ _ hg
    injection h with h
    simp only [Prod.mk.injEq] at h
    obtain ⟨rfl, rfl, rfl⟩ := h
    exact ⟨hb, by omega, h1.2.1, edge_of h1.2.2, opn_up ho (by omega), hw⟩
  · rename_i u r hg
    have h1 := pieceGo_ok _ _ _ _ _ _ _ hg
    injection h with h
    simp only [Prod.mk.injEq] at h
    obtain ⟨rfl, rfl, rfl⟩ := h
    refine ⟨hb, by omega, h1.2.1, edge_of h1.2.2, ⟨by have := ho.1; simp; omega, fun m hm => ?_⟩, hpt⟩
    rcases List.mem_append.1 hm with hm | hm
    · have := ho.2 m hm; omega
    · simp at hm; subst hm; omega
theorem text_ok {l : List UInt8} {p : Nat} {opn : List Int} {tk : Tk} {q : Nat} {opn' : List Int} (hb : bn l p < 128) (ho : OpnB opn p) (h : text l p opn = .ok (tk, q, opn')) : TokOk l p tk q opn' := by
  unfold text at h
  split at h
  · cases h
  · rename_i u r hg
    have h1 := textGo_ok _ _ _ _ _ _ _ hg
    injection h with h
    simp only [Prod.mk.injEq] at h
    obtain ⟨rfl, rfl, rfl⟩ := h
    exact ⟨hb, by omega, h1.2.1, edge_of (by rw [bn_pk, h1.2.2, ← bn_pk]; exact hb), opn_up ho (by omega), by simp⟩
theorem signs_ok : ∀ t ∈ signs, 1 ≤ t.length ∧ (∀ c ∈ t, c.toNat < 128) := by decide +kernel
theorem mem_last {opn : List Int} {n : Int} (h : opn.getLast? = some n) : n ∈ opn := List.mem_of_getLast? h
theorem drop_len (opn : List Int) : opn.dropLast.length = opn.length - 1 := List.length_dropLast
theorem sign_ok {l : List UInt8} {p : Nat} {opn : List Int} {tk : Tk} {q : Nat} {opn' : List Int} (hp : p ≤ l.length) (ho : OpnB opn p) (h : sign l p opn = .ok (tk, q, opn')) : TokOk l p tk q opn' := by
  unfold sign at h
  split at h
  · cases h
  rename_i t hf
  have hpre : pre t l p = true := by simpa using List.find?_some hf
  have hm := List.mem_of_find?_eq_some hf
  obtain ⟨hlen, hlow⟩ := signs_ok t hm
  have hle := pre_le hpre hp
  have hbyte : ∀ k, k < t.length → bn l (p + k) < 128 := by
    intro k hk
    have := pre_iff.1 hpre k hk
    unfold bn
    rw [this, List.getElem?_eq_getElem hk]
    exact hlow _ (List.getElem_mem hk)
  have hb0 : bn l p < 128 := by simpa using hbyte 0 (by omega)
  have hed : Edge l (p + t.length) := edge_of (by rw [show p + t.length - 1 = p + (t.length - 1) by omega]; exact hbyte _ (by omega))
  have key : ∀ (t' : List UInt8) (o : List Int), OpnB o (p + t.length) → TokOk l p ⟨3, t', [], 0⟩ (p + t.length) o := fun t' o ho' => ⟨hb0, by omega, hle, hed, ho', by simp⟩
  simp only at h
  split at h
  · injection h with h
    simp only [Prod.mk.injEq] at h
    obtain ⟨rfl, rfl, rfl⟩ := h
    exact key _ _ (opn_up ho (by omega))
  rename_i n hn
  have hno := ho.2 n (mem_last hn)
  have hdl := drop_len opn
  have ho1 := ho.1
  have hpos : 1 ≤ opn.length := by
    cases opn with
    | nil => simp at hn
    | cons a r => simp
  have hdrop : ∀ m ∈ opn.dropLast, 0 ≤ m ∧ m ≤ p := fun m hm => ho.2 m ((List.dropLast_subset _ hm))
  split at h
  · injection h with h
    simp only [Prod.mk.injEq] at h
    obtain ⟨rfl, rfl, rfl⟩ := h
    refine key _ _ ⟨by simp; omega, fun m hm => ?_⟩
    rcases List.mem_append.1 hm with hm | hm
    · have := hdrop m hm; omega
    · simp at hm; subst hm; omega
  split at h
  · split at h
    · exact piece_ok (by decide) (by decide) hb0 ⟨by omega, hdrop⟩ h
    · rename_i hn0
      injection h with h
      simp only [Prod.mk.injEq] at h
      obtain ⟨rfl, rfl, rfl⟩ := h
      refine key _ _ ⟨by simp; omega, fun m hm => ?_⟩
      rcases List.mem_append.1 hm with hm | hm
      · have := hdrop m hm; omega
      · simp at hm; subst hm; omega
  · injection h with h
    simp only [Prod.mk.injEq] at h
    obtain ⟨rfl, rfl, rfl⟩ := h
    exact key _ _ (opn_up ho (by omega))
/-- A token that is no number. -/
theorem token_ok {E : Env} {l : List UInt8} {p : Nat} {opn : List Int} {tk : Tk} {q : Nat} {opn' : List Int} (hp : p < l.length) (ho : OpnB opn p) (hn : (isDig (pk l p) || (pk l p == 46 && isDig (pk l (p + 1)))) = false) (h : token E l p opn = .ok (tk, q, opn')) : TokOk l p tk q opn' := by
  unfold token at h
  simp only at h
  rw [if_neg (by omega)] at h
  split at h
  · rename_i hl
    have h1 := nameEnd_ok l (l.length - p) p (by omega)
    injection h with h
    simp only [Prod.mk.injEq] at h
    obtain ⟨rfl, rfl, rfl⟩ := h
    have hlow := isLet_low _ hl
    have hgt : p < nameEnd l (l.length - p) p := by
      obtain ⟨f, hf⟩ : ∃ f, l.length - p = f + 1 := ⟨l.length - p - 1, by omega⟩
      rw [hf, nameEnd, if_pos (by simp [hl])]
      have := (nameEnd_ok l f (p + 1) (by omega)).2.1
      omega
    refine ⟨hlow, hgt, h1.2.2, edge_of (h1.1 hgt), opn_up ho (by omega), ?_⟩
    simp only
    split <;> decide
  rw [if_neg (by simp [hn])] at h
  split at h
  · rename_i hq
    simp only [Bool.or_eq_true, beq_iff_eq] at hq
    exact text_ok (by rw [bn_pk]; rcases hq with hq | hq <;> rw [hq] <;> decide) ho h
  split at h
  · rename_i hq
    exact piece_ok (by decide) (by decide) (by rw [bn_pk, (by simpa using hq : pk l p = 96)]; decide) ho h
  · exact sign_ok (by omega) ho h
end Go.Lx
namespace Go.Lx
theorem get_bn (s : ByteArray) (i : Nat) : (s.get! i).toNat = bn s.data.toList i := by
  unfold bn
  simp only [ByteArray.get!, Array.getElem?_toList]
  by_cases h : i < s.data.size
  · rw [getElem!_pos s.data i h, Array.getElem?_eq_getElem h]; rfl
  · rw [getElem!_neg s.data i h, Array.getElem?_eq_none (by omega)]; rfl
theorem bn_drop (l : List UInt8) (p i : Nat) : bn (l.drop p) i = bn l (p + i) := by
  unfold bn; rw [List.getElem?_drop]
theorem ext_drop (s : ByteArray) (p : Nat) : (s.extract p s.size).data.toList = s.data.toList.drop p := by
  rw [ByteArray.data_extract]
  simp only [Array.toList_extract, List.extract_eq_take_drop]
  rw [List.take_of_length_le (by simp)]
theorem decode_ext (s : ByteArray) (p : Nat) (hp : p < s.size) : Lib.decodeGo (s.extract p s.size) = Utf8.decode s p := by
  have hsz : (s.extract p s.size).size = s.size - p := by rw [ByteArray.size_extract]; omega
  unfold Lib.decodeGo
  rw [if_neg (by omega), Lib.decode_at, Lib.decode_at, get_bn, get_bn, get_bn, get_bn, get_bn, get_bn, get_bn, get_bn, ext_drop, bn_drop, bn_drop, bn_drop, bn_drop, hsz]
  simp
theorem good_dec (s : ByteArray) (p r n : Nat) (hp : p < s.size) (h : Utf8.decode s p = (r, n)) (hr : r ≠ 65533 ∨ 3 ≤ n) : GoodAt s.data.toList p n := by
  rw [Lib.decode_at, get_bn, get_bn, get_bn, get_bn] at h
  obtain ⟨h1, h2⟩ := good_of_decode (bn_lt _ _) (bn_lt _ _) (bn_lt _ _) (bn_lt _ _) (by omega) h hr
  exact ⟨by simp; omega, h2⟩
theorem dec_rng (s : ByteArray) (p r n : Nat) (hp : p < s.size) (h : Utf8.decode s p = (r, n)) : r ≤ 1114111 ∧ 1 ≤ n ∧ n ≤ s.size - p := by
  rw [Lib.decode_at, get_bn, get_bn, get_bn, get_bn] at h
  generalize bn s.data.toList p = b0 at h
  generalize bn s.data.toList (p + 1) = b1 at h
  generalize bn s.data.toList (p + 2) = b2 at h
  generalize bn s.data.toList (p + 3) = b3 at h
  unfold Lib.decodeN at h
  repeat' split at h
  all_goals
    injection h with h5 h6
    subst h5 h6
    omega
/-- Where the first end of a comment in brackets stands. -/
theorem idx_block (l : List UInt8) (q : Nat) (_hq : q ≤ l.length) : Lib.index (l.drop q) [42, 47] = -1 ∨ ∃ n : Nat, Lib.index (l.drop q) [42, 47] = n ∧ q + n + 2 ≤ l.length ∧ pre [42, 47] l (q + n) = true ∧ ∀ i, q ≤ i → i < q + n → pre [42, 47] l i = false := by
  have hocc : ∀ i, Lib.occAt (l.drop q) [42, 47] i = pre [42, 47] l (q + i) := fun i => by unfold Lib.occAt pre; rw [List.drop_drop]
  rcases Lib.index_spec (l.drop q) [42, 47] with ⟨h, _⟩ | ⟨n, h1, h2, h3, h4⟩
  · exact Or.inl h
  · rw [hocc] at h3
    refine Or.inr ⟨n, h1, ?_, h3, fun i a b => ?_⟩
    · simp at h2
      unfold pre at h3
      rw [List.isPrefixOf_iff_prefix] at h3
      have := h3.length_le
      simp at this
      omega
    · have := h4 (i - q) (by omega)
      rw [hocc] at this
      rwa [show q + (i - q) = i by omega] at this
end Go.Lx
namespace Go.Lx
def rline (l : List UInt8) (p : Nat) : Nat := if pre [10] l p || pre [13] l p then 1 else if pre [226, 128, 168] l p || pre [226, 128, 169] l p then 3 else 0
def rblank (l : List UInt8) (p : Nat) : Nat := if pre [9] l p || pre [11] l p || pre [12] l p || pre [32] l p then 1 else if pre [194, 160] l p then 2 else if pre [239, 187, 191] l p then 3 else 0
theorem rblank_txt {t : List UInt8} (l : List UInt8) (p : Nat) (ht : t ∈ bls) (h : pre t l p = true) : rblank l p = t.length := by
  unfold rblank pre at *
  generalize l.drop p = d at *
  simp only [bls, List.mem_cons, List.not_mem_nil, or_false] at ht
  rcases ht with rfl | rfl | rfl | rfl | rfl | rfl <;> (rcases d with _ | ⟨a, _ | ⟨b, _ | ⟨c, r⟩⟩⟩ <;> simp_all [List.isPrefixOf])
  all_goals (first | done | (obtain ⟨rfl, rfl, rfl⟩ := h; simp) | (obtain ⟨rfl, rfl⟩ := h; simp) | (subst h; simp))
theorem rline_txt {t : List UInt8} (l : List UInt8) (p : Nat) (ht : t ∈ nls) (h : pre t l p = true) : rblank l p = 0 ∧ rline l p = t.length := by
  unfold rblank rline pre at *
  generalize l.drop p = d at *
  simp only [nls, List.mem_cons, List.not_mem_nil, or_false] at ht
  rcases ht with rfl | rfl | rfl | rfl <;> (rcases d with _ | ⟨a, _ | ⟨b, _ | ⟨c, r⟩⟩⟩ <;> simp_all [List.isPrefixOf])
  all_goals (first | done | (obtain ⟨rfl, rfl, rfl⟩ := h; simp) | (obtain ⟨rfl, rfl⟩ := h; simp) | (subst h; simp))
theorem rline_no {l : List UInt8} {p : Nat} (h : ∀ t ∈ nls, pre t l p = false) : rline l p = 0 := by
  unfold rline
  simp [h [10] (by decide), h [13] (by decide), h [226, 128, 168] (by decide), h [226, 128, 169] (by decide)]
theorem r_slash {c : UInt8} {l : List UInt8} {p : Nat} (h : pre [47, c] l p = true) : rblank l p = 0 ∧ rline l p = 0 := by
  unfold rblank rline pre at *
  generalize l.drop p = d at *
  rcases d with _ | ⟨a, _ | ⟨b, r⟩⟩ <;> simp_all [List.isPrefixOf]
  all_goals (first | done | (obtain ⟨rfl, rfl⟩ := h; simp))
theorem r_slash2 {l : List UInt8} {p : Nat} (h : pre [47, 42] l p = true) : pre [47, 47] l p = false := by
  unfold pre at *
  generalize l.drop p = d at *
  rcases d with _ | ⟨a, _ | ⟨b, r⟩⟩ <;> simp_all [List.isPrefixOf]
  all_goals (first | done | (obtain ⟨rfl, rfl⟩ := h; simp))
theorem bls_pos : ∀ t ∈ bls, 0 < t.length := by decide
theorem nls_pos : ∀ t ∈ nls, 0 < t.length := by decide
theorem pre_len {t l : List UInt8} {p : Nat} (h : pre t l p = true) (ht : 0 < t.length) : p + t.length ≤ l.length := by
  rw [pre_iff] at h
  have := h (t.length - 1) (by omega)
  rw [List.getElem?_eq_getElem (by omega : t.length - 1 < t.length)] at this
  obtain ⟨h1, _⟩ := List.getElem?_eq_some_iff.1 this
  omega
/-- What the reference does at a place within a gap. -/
inductive Step (l : List UInt8) (p : Nat) : Prop where
  | blank (n : Nat) : 0 < n → rblank l p = n → p + n ≤ l.length → Gap l (p + n) l.length → Step l p
  | line (n : Nat) : rblank l p = 0 → 0 < n → rline l p = n → p + n ≤ l.length → Gap l (p + n) l.length → Step l p
  | rem (j : Nat) : rblank l p = 0 → rline l p = 0 → pre [47, 47] l p = true → p < j → j ≤ l.length → (∀ i, p ≤ i → i < j → rline l i = 0) → (j = l.length ∨ 0 < rline l j) → Gap l j l.length → Step l p
  | block (j : Nat) : rblank l p = 0 → rline l p = 0 → pre [47, 47] l p = false → pre [47, 42] l p = true → p + 2 ≤ j → j + 2 ≤ l.length → (∀ i, p + 2 ≤ i → i < j → pre [42, 47] l i = false) → pre [42, 47] l j = true → Gap l (j + 2) l.length → Step l p
theorem gap_step {l : List UInt8} {p r : Nat} (h : Gap l p r) (hr : r = l.length) (hp : p < l.length) : Step l p := by
  cases h with
  | done => omega
  | txt t _ _ ht hpre hg =>
    subst hr
    rcases ht with ht | ht
    · have h0 := nls_pos t ht
      obtain ⟨h1, h2⟩ := rline_txt l p ht hpre
      exact .line t.length h1 h0 h2 (pre_len hpre h0) hg
    · have h0 := bls_pos t ht
      exact .blank t.length h0 (rblank_txt l p ht hpre) (pre_len hpre h0) hg
  | line _ j _ hpre hpj hno hj hg =>
    subst hr
    obtain ⟨h1, h2⟩ := r_slash hpre
    have hjl := hg.le
    have hj2 : j = l.length ∨ 0 < rline l j := by
      rcases hj with hj | ⟨t, ht, hx⟩
      · exact Or.inl hj
      · refine Or.inr ?_
        rw [(rline_txt l j ht hx).2]
        exact nls_pos t ht
    refine .rem j h1 h2 hpre ?_ hjl (fun i a b => rline_no (hno i a b)) hj2 hg
    rcases Nat.lt_or_ge p j with h | h
    · exact h
    · obtain rfl : p = j := by omega
      omega
  | block _ j _ hpre hpj hno hj hg =>
    subst hr
    obtain ⟨h1, h2⟩ := r_slash hpre
    have hjl := hg.le
    exact .block j h1 h2 (r_slash2 hpre) hpre hpj hjl hno hj hg
end Go.Lx

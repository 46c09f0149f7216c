/-
  The plain model of the lexer of package lex (no program in sight): bytes of a source, places, tokens. Nothing is proved here about the program.
-/
import Derived.Lib.Strings
import Derived.Lib.Index
import Derived.Lib.IndexMore
import Derived.Lib.Bytealg
import Derived.Lib.SpaceU
namespace Go.Lx

/-- What is left open: whether a comment's bytes have an end of a line in them; what digits.Literal answers (bits, length). -/
structure Env where
  ca : List UInt8 → Bool
  lit : List UInt8 → Option (Nat × Nat)

def pk (l : List UInt8) (p : Nat) : UInt8 := l[p]?.getD 0
def isDig (c : UInt8) : Bool := decide (48 ≤ c) && decide (c ≤ 57)
def isLet (c : UInt8) : Bool := c == 36 || c == 95 || (decide (97 ≤ (c ||| 32)) && decide ((c ||| 32) ≤ 122))
def pre (t l : List UInt8) (p : Nat) : Bool := t.isPrefixOf (l.drop p)
def firstOf (ts : List (List UInt8)) (l : List UInt8) (p : Nat) : Option Nat := (ts.find? fun t => pre t l p).map fun t => p + t.length
def nls : List (List UInt8) := [[10], [13], [226, 128, 168], [226, 128, 169]]
def bls : List (List UInt8) := [[32], [9], [11], [12], [194, 160], [239, 187, 191]]
def nl (l : List UInt8) (p : Nat) : Option Nat := firstOf nls l p
def bl (l : List UInt8) (p : Nat) : Option Nat := firstOf bls l p

def lineEnd (l : List UInt8) : Nat → Nat → Nat
  | 0, p => p
  | f + 1, p => if p < l.length then (match nl l p with | some q => q | none => lineEnd l f (p + 1)) else p

inductive CR where
  | no
  | bad
  | till (q : Nat) (ln : Bool)

def comment (E : Env) (l : List UInt8) (p : Nat) (ln : Bool) : CR :=
  if pre [47, 47] l p then
    let q := lineEnd l (l.length - p) p
    .till q (ln || E.ca ((l.drop p).take (q - p)))
  else if pre [47, 42] l p then
    let n := Lib.index (l.drop (p + 2)) [42, 47]
    if n < 0 then .bad else .till (p + n.toNat + 4) (ln || E.ca ((l.drop p).take (n.toNat + 2)))
  else .no

def skip (E : Env) (l : List UInt8) : Nat → Nat → Bool → Except Nat (Nat × Bool)
  | 0, p, ln => .ok (p, ln)
  | f + 1, p, ln =>
    match nl l p with
    | some q => skip E l f q true
    | none =>
      match bl l p with
      | some q => skip E l f q ln
      | none =>
        match comment E l p ln with
        | .no => .ok (p, ln)
        | .bad => .error p
        | .till q ln' => skip E l f q ln'

def hexDigits : List UInt8 := [48, 49, 50, 51, 52, 53, 54, 55, 56, 57, 97, 98, 99, 100, 101, 102]
def hexd (c : UInt8) : Option Nat := let i := Lib.indexByte hexDigits (c ||| 32); if i < 0 ∨ c < 48 then none else some i.toNat

def hexGo (l : List UInt8) : Nat → Nat → Nat → Nat → Option (Nat × Nat × Nat)
  | 0, n, v, p => some (n, v, p)
  | f + 1, n, v, p =>
    match hexd (pk l p) with
    | none => some (n, v, p)
    | some k => if 1114111 < 16 * v + k then none else hexGo l f (n + 1) (16 * v + k) (p + 1)
def hex (l : List UInt8) (least most p : Nat) : Option (Nat × Nat) :=
  match hexGo l most 0 0 p with
  | none => none
  | some (n, v, q) => if n < least then none else some (v, q)

def u16 (n : Nat) : List UInt8 := [UInt8.ofNat (n / 256), UInt8.ofNat n]
def pointB (r : Nat) : List UInt8 :=
  if 1114111 < r then [] else if r < 65536 then u16 r else u16 (55296 + (r - 65536) / 1024) ++ u16 (56320 + r % 1024)
/-- A code point as it stands: its units, the place behind. -/
def plain (l : List UInt8) (p : Nat) : List UInt8 × Nat :=
  (pointB (Lib.decodeL (l.drop p)).1, p + (Lib.decodeL (l.drop p)).2)

def escs : List UInt8 := [110, 116, 98, 118, 102, 114]
def escVals : List Nat := [10, 9, 8, 11, 12, 13]

def escape (l : List UInt8) (p : Nat) : Option (List UInt8 × Nat) :=
  let c := pk l p
  let i := Lib.indexByte escs c
  if l.length ≤ p then none
  else if 0 ≤ i then some (u16 (escVals.getD i.toNat 0), p + 1)
  else if pre [13, 10] l p then some ([], p + 2)
  else match nl l p with
    | some q => some ([], q)
    | none =>
      if isDig c then (if c != 48 || isDig (pk l (p + 1)) then none else some ([0, 0], p + 1))
      else if c == 120 then (hex l 2 2 (p + 1)).map fun x => (u16 x.1, x.2)
      else if c == 117 && pk l (p + 1) == 123 then
        match hex l 1 l.length (p + 2) with
        | none => none
        | some (r, q) => if pk l q != 125 then none else some (pointB r, q + 1)
      else if c == 117 then (hex l 4 4 (p + 1)).map fun x => (u16 x.1, x.2)
      else some (plain l p)

/-- The body of a text, behind its sign q. -/
def textGo (l : List UInt8) (q : UInt8) : Nat → Nat → List UInt8 → Option (List UInt8 × Nat)
  | 0, _, _ => none
  | f + 1, p, acc =>
    let c := pk l p
    if l.length ≤ p ∨ c = 10 ∨ c = 13 then none
    else if c == q then some (acc, p + 1)
    else if c == 92 then
      match escape l (p + 1) with
      | none => none
      | some (u, p') => textGo l q f p' (acc ++ u)
    else textGo l q f (plain l p).2 (acc ++ (plain l p).1)

/-- A template's piece, behind its first byte: units, the place behind, whether code follows. -/
def pieceGo (l : List UInt8) : Nat → Nat → List UInt8 → Option (List UInt8 × Nat × Bool)
  | 0, _, _ => none
  | f + 1, p, acc =>
    let c := pk l p
    if l.length ≤ p then none
    else if c == 96 then some (acc, p + 1, false)
    else if pre [36, 123] l p then some (acc, p + 2, true)
    else if c == 13 then pieceGo l f (if pk l (p + 1) == 10 then p + 2 else p + 1) (acc ++ [0, 10])
    else if c == 92 then
      match escape l (p + 1) with
      | none => none
      | some (u, p') => pieceGo l f p' (acc ++ u)
    else pieceGo l f (plain l p).2 (acc ++ (plain l p).1)

structure Tk where
  kind : Nat
  text : List UInt8
  str : List UInt8
  num : Nat

/-- What a token is, the place behind it, the open braces. -/
abbrev TR := Except Nat (Tk × Nat × List Int)

def text (l : List UInt8) (p : Nat) (opn : List Int) : TR :=
  match textGo l (pk l p) (l.length - p) (p + 1) [] with
  | none => .error p
  | some (u, q) => .ok (⟨5, [], u, 0⟩, q, opn)

def piece (l : List UInt8) (whole part p : Nat) (opn : List Int) : TR :=
  match pieceGo l (l.length - p) (p + 1) [] with
  | none => .error p
  | some (u, q, false) => .ok (⟨whole, [], u, 0⟩, q, opn)
  | some (u, q, true) => .ok (⟨part, [], u, 0⟩, q, opn ++ [0])

def signs : List (List UInt8) := [[62,62,62,61],[46,46,46],[61,61,61],[33,61,61],[42,42,61],[60,60,61],[62,62,61],[62,62,62],[60,61],[62,61],[61,61],[33,61],[42,42],[43,43],[45,45],[60,60],[62,62],[38,38],[124,124],[43,61],[45,61],[42,61],[47,61],[37,61],[38,61],[124,61],[94,61],[61,62],[123],[125],[40],[41],[91],[93],[46],[59],[44],[60],[62],[43],[45],[42],[47],[37],[38],[124],[94],[33],[126],[63],[58],[61]]

def sign (l : List UInt8) (p : Nat) (opn : List Int) : TR :=
  match signs.find? fun t => pre t l p with
  | none => .error p
  | some t =>
    let k : TR := .ok (⟨3, t, [], 0⟩, p + t.length, opn)
    match opn.getLast? with
    | none => k
    | some n =>
      if t = [123] then .ok (⟨3, t, [], 0⟩, p + t.length, opn.dropLast ++ [n + 1])
      else if t = [125] then
        (if n = 0 then piece l 9 8 p opn.dropLast else .ok (⟨3, t, [], 0⟩, p + t.length, opn.dropLast ++ [n - 1]))
      else k

def nameEnd (l : List UInt8) : Nat → Nat → Nat
  | 0, p => p
  | f + 1, p => if isLet (pk l p) || isDig (pk l p) then nameEnd l f (p + 1) else p

def words : List UInt8 := [32, 98, 114, 101, 97, 107, 32, 99, 97, 115, 101, 32, 99, 97, 116, 99, 104, 32, 99, 108, 97, 115, 115, 32, 99, 111, 110, 115, 116, 32, 99, 111, 110, 116, 105, 110, 117, 101, 32, 100, 101, 98, 117, 103, 103, 101, 114, 32, 100, 101, 102, 97, 117, 108, 116, 32, 100, 101, 108, 101, 116, 101, 32, 100, 111, 32, 101, 108, 115, 101, 32, 101, 110, 117, 109, 32, 101, 120, 112, 111, 114, 116, 32, 101, 120, 116, 101, 110, 100, 115, 32, 102, 97, 108, 115, 101, 32, 102, 105, 110, 97, 108, 108, 121, 32, 102, 111, 114, 32, 102, 117, 110, 99, 116, 105, 111, 110, 32, 105, 102, 32, 105, 109, 112, 111, 114, 116, 32, 105, 110, 32, 105, 110, 115, 116, 97, 110, 99, 101, 111, 102, 32, 110, 101, 119, 32, 110, 117, 108, 108, 32, 114, 101, 116, 117, 114, 110, 32, 115, 117, 112, 101, 114, 32, 115, 119, 105, 116, 99, 104, 32, 116, 104, 105, 115, 32, 116, 104, 114, 111, 119, 32, 116, 114, 117, 101, 32, 116, 114, 121, 32, 116, 121, 112, 101, 111, 102, 32, 118, 97, 114, 32, 118, 111, 105, 100, 32, 119, 104, 105, 108, 101, 32, 119, 105, 116, 104, 32, 105, 109, 112, 108, 101, 109, 101, 110, 116, 115, 32, 105, 110, 116, 101, 114, 102, 97, 99, 101, 32, 108, 101, 116, 32, 112, 97, 99, 107, 97, 103, 101, 32, 112, 114, 105, 118, 97, 116, 101, 32, 112, 114, 111, 116, 101, 99, 116, 101, 100, 32, 112, 117, 98, 108, 105, 99, 32, 115, 116, 97, 116, 105, 99, 32, 121, 105, 101, 108, 100, 32]

def isWord (t : List UInt8) : Bool := !t.isEmpty && !Lib.contains t [32] && Lib.contains words ([32] ++ t ++ [32])
def isName (t : List UInt8) : Bool := (match t with | [] => false | c :: r => isLet c && r.all (fun c => isLet c || isDig c)) && !isWord t

def token (E : Env) (l : List UInt8) (p : Nat) (opn : List Int) : TR :=
  let c := pk l p
  if l.length ≤ p then .ok (⟨0, [], [], 0⟩, p, opn)
  else if isLet c then
    let q := nameEnd l (l.length - p) p
    let t := (l.drop p).take (q - p)
    .ok (⟨if isWord t then 2 else 1, t, [], 0⟩, q, opn)
  else if isDig c || (c == 46 && isDig (pk l (p + 1))) then
    match E.lit (l.drop p) with
    | none => .error p
    | some (v, n) => .ok (⟨4, [], [], v⟩, p + n, opn)
  else if c == 34 || c == 39 then text l p opn
  else if c == 96 then piece l 6 7 p opn
  else sign l p opn

structure Tok where
  tk : Tk
  frm : Nat
  till : Nat
  line : Bool

def next (E : Env) (l : List UInt8) (p : Nat) (opn : List Int) : Except Nat (Tok × Nat × List Int) :=
  match skip E l (l.length - p) p false with
  | .error at' => .error at'
  | .ok (q, ln) =>
    match token E l q opn with
    | .error at' => .error at'
    | .ok (tk, r, opn') => .ok (⟨tk, q, r, ln⟩, r, opn')

def toks (E : Env) (l : List UInt8) : Nat → Nat → List Int → List Tok → Except Nat (List Tok)
  | 0, _, _, acc => .ok acc
  | f + 1, p, opn, acc =>
    match next E l p opn with
    | .error at' => .error at'
    | .ok (t, q, opn') => if t.tk.kind = 0 then .ok (acc ++ [t]) else toks E l f q opn' (acc ++ [t])

def scan (E : Env) (l : List UInt8) : Except Nat (List Tok) := toks E l (l.length + 1) 0 [] []

end Go.Lx

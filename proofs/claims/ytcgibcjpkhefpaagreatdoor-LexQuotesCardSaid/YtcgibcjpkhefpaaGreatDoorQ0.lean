/-
  The plain law of Quote: what a text literal of given units looks like, and what the lexer's model reads at it.
-/
import Derived.Test.YtcgibcjpkhefpaaGreatDoorM0
namespace Go.Lx
/-- The units of a text: two bytes each; an odd byte at the end is left off. -/
def unitsOf : List UInt8 → List Nat
  | a :: b :: r => (a.toNat * 256 + b.toNat) :: unitsOf r
  | _ => []
def hx (n : Nat) : UInt8 := hexDigits.getD n 0
/-- How a unit is written. -/
def q1 (u : Nat) : List UInt8 :=
  if u = 34 ∨ u = 92 then [92, UInt8.ofNat u] else if 32 ≤ u ∧ u ≤ 126 then [UInt8.ofNat u]
  else [92, 117, hx (u / 4096 % 16), hx (u / 256 % 16), hx (u / 16 % 16), hx (u % 16)]
def quoteB (us : List Nat) : List UInt8 := [34] ++ us.flatMap q1 ++ [34]

theorem q1_ascii (u : Nat) : ∀ b ∈ q1 u, b.toNat < 128 := by
  have h16 : ∀ n : Fin 16, (hx n.val).toNat < 128 := by decide
  have hh : ∀ n, (hx (n % 16)).toNat < 128 := fun n => h16 ⟨n % 16, Nat.mod_lt _ (by decide)⟩
  intro b hb
  unfold q1 at hb
  split at hb
  · rename_i h
    rcases h with rfl | rfl <;> simp at hb <;> rcases hb with rfl | rfl <;> decide
  · split at hb
    · simp at hb
      subst hb
      simp; omega
    · simp at hb
      rcases hb with rfl | rfl | rfl | rfl | rfl | rfl <;> first | decide | exact hh _
theorem quote_ascii (us : List Nat) : ∀ b ∈ quoteB us, b.toNat < 128 := by
  intro b hb
  simp only [quoteB, List.mem_append, List.mem_singleton, List.mem_flatMap] at hb
  rcases hb with (rfl | ⟨u, _, h⟩) | rfl
  · decide
  · exact q1_ascii u b h
  · decide
theorem unitsOf_lt : ∀ (n : Nat) (l : List UInt8), l.length ≤ n → ∀ u ∈ unitsOf l, u < 65536
  | _, [], _, u, h => by simp [unitsOf] at h
  | _, [_], _, u, h => by simp [unitsOf] at h
  | 0, a :: b :: r, hn, u, h => by simp at hn
  | n + 1, a :: b :: r, hn, u, h => by
    simp only [unitsOf, List.mem_cons] at h
    rcases h with rfl | h
    · have := a.toNat_lt; have := b.toNat_lt; omega
    · exact unitsOf_lt n r (by simp at hn; omega) u h
theorem units_back : ∀ (n : Nat) (l : List UInt8), l.length ≤ n → (unitsOf l).flatMap u16 = l.take (l.length / 2 * 2)
  | _, [], _ => rfl
  | _, [_], _ => by simp [unitsOf]
  | 0, a :: b :: r, hn => by simp at hn
  | n + 1, a :: b :: r, hn => by
    have ih := units_back n r (by simp at hn; omega)
    have e : (a :: b :: r).length / 2 * 2 = (r.length / 2 * 2) + 2 := by simp; omega
    rw [e, List.take_succ_cons, List.take_succ_cons, unitsOf, List.flatMap_cons, ih]
    have ha := a.toNat_lt
    have hb := b.toNat_lt
    have e1 : (a.toNat * 256 + b.toNat) / 256 = a.toNat := by omega
    have e2 : UInt8.ofNat (a.toNat * 256 + b.toNat) = b := by
      apply UInt8.toNat_inj.1
      simp
    simp [u16, e1, e2]
theorem q1_len (u : Nat) : 1 ≤ (q1 u).length ∧ (q1 u).length ≤ 6 := by
  unfold q1
  split
  · simp
  · split <;> simp
theorem flat_len (us : List Nat) : us.length ≤ (us.flatMap q1).length ∧ (us.flatMap q1).length ≤ 6 * us.length := by
  induction us with
  | nil => simp
  | cons u us ih => have := q1_len u; simp only [List.flatMap_cons, List.length_append, List.length_cons]; omega
/-! ### what the model reads -/
theorem pk_drop {l r : List UInt8} {p : Nat} {c : UInt8} (h : l.drop p = c :: r) : pk l p = c := by
  have : l[p]? = some c := by
    have h1 : (l.drop p)[0]? = some c := by rw [h]; rfl
    simpa using h1
  simp [pk, this]
theorem drop_next {l r : List UInt8} {p : Nat} {c : UInt8} (h : l.drop p = c :: r) : l.drop (p + 1) = r := by
  rw [← List.drop_drop, h]; rfl
theorem lt_drop {l r : List UInt8} {p : Nat} {c : UInt8} (h : l.drop p = c :: r) : p < l.length := by
  rcases Nat.lt_or_ge p l.length with h' | h'
  · exact h'
  · rw [List.drop_eq_nil_of_le h'] at h; cases h
theorem dec_head (c : UInt8) (r : List UInt8) (hc : c.toNat < 128) : Lib.decodeL (c :: r) = (c.toNat, 1) := by
  have hb : ((⟨(c :: r).toArray⟩ : ByteArray).get! 0) = c := rfl
  have hs : (⟨(c :: r).toArray⟩ : ByteArray).size = r.length + 1 := by simp [ByteArray.size]
  unfold Lib.decodeL Utf8.decode
  simp [hb, hc]
theorem plain_head {l r : List UInt8} {p : Nat} {c : UInt8} (h : l.drop p = c :: r) (hc : c.toNat < 128) : plain l p = (u16 c.toNat, p + 1) := by
  unfold plain
  rw [h, dec_head c r hc]
  have h1 : ¬ (1114111 < c.toNat) := by omega
  have h2 : c.toNat < 65536 := by omega
  simp [pointB, h1, h2]
/-- The text's body. -/
theorem textGo_quote (l : List UInt8) : ∀ (us : List Nat) (f p : Nat) (acc : List UInt8), (∀ u ∈ us, u < 65536) → us.length < f → l.drop p = us.flatMap q1 ++ [34] →
    textGo l 34 f p acc = some (acc ++ us.flatMap u16, p + (us.flatMap q1).length + 1)
  | [], f, p, acc, _, hf, h => by
    obtain ⟨f, rfl⟩ : ∃ f', f = f' + 1 := ⟨f - 1, by simp at hf; omega⟩
    have h : l.drop p = 34 :: [] := h
    have hp := pk_drop h
    have hl := lt_drop h
    simp only [textGo, hp]
    rw [if_neg (by simp; omega)]
    simp
  | u :: us, f, p, acc, hu, hf, h => by
    obtain ⟨f, rfl⟩ : ∃ f', f = f' + 1 := ⟨f - 1, by simp at hf; omega⟩
    have hu0 := hu u (by simp)
    have ih := fun q a h => textGo_quote l us f q a (fun v hv => hu v (by simp [hv])) (by simp at hf; omega) h
    rw [List.flatMap_cons, List.append_assoc] at h
    by_cases h1 : u = 34 ∨ u = 92
    · have hq : q1 u = [92, UInt8.ofNat u] := by simp [q1, h1]
      rw [hq] at h
      have h : l.drop p = 92 :: (UInt8.ofNat u :: (us.flatMap q1 ++ [34])) := h
      have hp := pk_drop h
      have hl := lt_drop h
      have hd1 := drop_next h
      have hl1 := lt_drop hd1
      have hp1 := pk_drop hd1
      have hd2 := drop_next hd1
      have hpl := plain_head hd1 (by rcases h1 with rfl | rfl <;> decide)
      have hesc : escape l (p + 1) = some (u16 u, p + 2) := by
        unfold escape
        have hpre : ∀ t, pre t l (p + 1) = t.isPrefixOf (UInt8.ofNat u :: (us.flatMap q1 ++ [34])) := fun t => by unfold pre; rw [hd1]
        have hnl : nl l (p + 1) = none := by
          unfold nl firstOf nls
          rcases h1 with rfl | rfl <;> simp [hpre, List.isPrefixOf]
        rw [hnl, hpl, hp1, hpre]
        rcases h1 with rfl | rfl
        · simp [Lib.indexByte, escs, isDig, List.isPrefixOf]; omega
        · simp [Lib.indexByte, escs, isDig, List.isPrefixOf]; omega
      simp only [textGo, hp]
      rw [if_neg (by simp; omega), hesc]
      simp only
      rw [ih (p + 2) _ hd2, List.flatMap_cons, List.flatMap_cons, hq]
      simp; omega
    · by_cases h2 : 32 ≤ u ∧ u ≤ 126
      · have hq : q1 u = [UInt8.ofNat u] := by simp [q1, h1, h2]
        rw [hq] at h
        have h : l.drop p = UInt8.ofNat u :: (us.flatMap q1 ++ [34]) := h
        have hp := pk_drop h
        have hl := lt_drop h
        have hd1 := drop_next h
        have hn : (UInt8.ofNat u).toNat = u := by simp; omega
        have hpl := plain_head h (by omega)
        rw [hn] at hpl
        have e1 : UInt8.ofNat u ≠ 10 := fun e => by have := congrArg UInt8.toNat e; rw [hn] at this; simp at this; omega
        have e2 : UInt8.ofNat u ≠ 13 := fun e => by have := congrArg UInt8.toNat e; rw [hn] at this; simp at this; omega
        have e3 : UInt8.ofNat u ≠ 34 := fun e => by have := congrArg UInt8.toNat e; rw [hn] at this; simp at this; omega
        have e4 : UInt8.ofNat u ≠ 92 := fun e => by have := congrArg UInt8.toNat e; rw [hn] at this; simp at this; omega
        simp only [textGo, hp]
        rw [if_neg (by simp [e1, e2]; omega)]
        simp only [beq_iff_eq, e3, e4, if_false]
        rw [hpl, ih (p + 1) _ hd1, List.flatMap_cons, List.flatMap_cons, hq]
        simp; omega
      · have hq : q1 u = [92, 117, hx (u / 4096 % 16), hx (u / 256 % 16), hx (u / 16 % 16), hx (u % 16)] := by simp only [q1, h1, h2, if_false]
        rw [hq] at h
        have h : l.drop p = 92 :: 117 :: hx (u / 4096 % 16) :: hx (u / 256 % 16) :: hx (u / 16 % 16) :: hx (u % 16) :: (us.flatMap q1 ++ [34]) := h
        have hp := pk_drop h
        have hl := lt_drop h
        have hd1 := drop_next h
        have hl1 := lt_drop hd1
        have hp1 := pk_drop hd1
        have hd2 := drop_next hd1
        have hp2 := pk_drop hd2
        have hd3 := drop_next hd2
        have hp3 := pk_drop hd3
        have hd4 := drop_next hd3
        have hp4 := pk_drop hd4
        have hd5 := drop_next hd4
        have hp5 := pk_drop hd5
        have hd6 := drop_next hd5
        have hx0 : ∀ n : Fin 16, hexd (hx n.val) = some n.val ∧ hx n.val ≠ 123 := by decide
        have hx1 : ∀ n, hexd (hx (n % 16)) = some (n % 16) ∧ hx (n % 16) ≠ 123 := fun n => hx0 ⟨n % 16, Nat.mod_lt _ (by decide)⟩
        have hhex : hex l 4 4 (p + 1 + 1) = some (u, p + 6) := by
          unfold hex
          have a1 : ¬ (1114111 < 16 * 0 + u / 4096 % 16) := by omega
          have a2 : ¬ (1114111 < 16 * (16 * 0 + u / 4096 % 16) + u / 256 % 16) := by omega
          have a3 : ¬ (1114111 < 16 * (16 * (16 * 0 + u / 4096 % 16) + u / 256 % 16) + u / 16 % 16) := by omega
          have a4 : ¬ (1114111 < 16 * (16 * (16 * (16 * 0 + u / 4096 % 16) + u / 256 % 16) + u / 16 % 16) + u % 16) := by omega
          simp only [hexGo, hp2, hp3, hp4, hp5, (hx1 _).1, a1, a2, a3, a4, if_false]
          simp; omega
        have hesc : escape l (p + 1) = some (u16 u, p + 6) := by
          unfold escape
          have hpre : ∀ t, pre t l (p + 1) = t.isPrefixOf _ := fun t => by unfold pre; rw [hd1]
          have hnl : nl l (p + 1) = none := by
            unfold nl firstOf nls
            simp [hpre, List.isPrefixOf]
          rw [hnl, hp1, hpre, hhex, hp2]
          have hb : (hx (u / 4096 % 16) == 123) = false := by simpa using (hx1 (u / 4096)).2
          rw [hb]
          simp [Lib.indexByte, escs, isDig, List.isPrefixOf]; omega
        simp only [textGo, hp]
        rw [if_neg (by simp; omega), hesc]
        simp only
        rw [ih (p + 6) _ hd6, List.flatMap_cons, List.flatMap_cons, hq]
        simp; omega
end Go.Lx

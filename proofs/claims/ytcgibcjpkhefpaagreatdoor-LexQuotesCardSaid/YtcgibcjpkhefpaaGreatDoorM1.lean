/-
  Plain facts on the lexer's model: places go on and stay within the source.
-/
import Derived.Test.YtcgibcjpkhefpaaGreatDoorM0
import Derived.Lib.TrimU
namespace Go.Lx

theorem pk_zero {l : List UInt8} {p : Nat} (h : l.length ≤ p) : pk l p = 0 := by simp [pk, h]
theorem pk_lt {l : List UInt8} {p : Nat} (h : pk l p ≠ 0) : p < l.length := by
  rcases Nat.lt_or_ge p l.length with h' | h'
  · exact h'
  · exact absurd (pk_zero h') h
theorem pre_le {t l : List UInt8} {p : Nat} (h : pre t l p = true) (hp : p ≤ l.length) : p + t.length ≤ l.length := by
  simp only [pre, List.isPrefixOf_iff_prefix] at h
  have := h.length_le
  simp at this; omega
theorem firstOf_le {ts : List (List UInt8)} {l : List UInt8} {p q : Nat} (ht : ∀ t ∈ ts, 1 ≤ t.length) (h : firstOf ts l p = some q) (hp : p ≤ l.length) : p < q ∧ q ≤ l.length := by
  simp only [firstOf, Option.map_eq_some_iff] at h
  obtain ⟨t, h1, rfl⟩ := h
  have h2 := List.find?_some h1
  have h3 := List.mem_of_find?_eq_some h1
  have := pre_le (by simpa using h2) hp
  have := ht t h3
  omega
theorem nl_le {l : List UInt8} {p q : Nat} (h : nl l p = some q) (hp : p ≤ l.length) : p < q ∧ q ≤ l.length := firstOf_le (by decide) h hp
theorem bl_le {l : List UInt8} {p q : Nat} (h : bl l p = some q) (hp : p ≤ l.length) : p < q ∧ q ≤ l.length := firstOf_le (by decide) h hp
theorem hexd_zero : hexd 0 = none := by decide
theorem hexGo_le (l : List UInt8) : ∀ (f n v p n' v' q : Nat), hexGo l f n v p = some (n', v', q) → p ≤ l.length → p ≤ q ∧ q ≤ l.length
  | 0, n, v, p, n', v', q, h, hp => by
    simp only [hexGo, Option.some.injEq, Prod.mk.injEq] at h
    omega
  | f + 1, n, v, p, n', v', q, h, hp => by
    rw [hexGo] at h
    split at h
    · simp only [Option.some.injEq, Prod.mk.injEq] at h
      omega
    · rename_i k hk
      split at h
      · cases h
      · have hlt : p < l.length := pk_lt (fun e => by rw [e, hexd_zero] at hk; cases hk)
        have ih := hexGo_le l f _ _ _ _ _ _ h (by omega)
        omega
theorem hexGo_val (l : List UInt8) : ∀ (f n v p n' v' q : Nat), hexGo l f n v p = some (n', v', q) → v ≤ 1114111 → v' ≤ 1114111
  | 0, n, v, p, n', v', q, h, hp => by
    simp only [hexGo, Option.some.injEq, Prod.mk.injEq] at h
    omega
  | f + 1, n, v, p, n', v', q, h, hp => by
    rw [hexGo] at h
    split at h
    · simp only [Option.some.injEq, Prod.mk.injEq] at h
      omega
    · split at h
      · cases h
      · exact hexGo_val l f _ _ _ _ _ _ h (by omega)
theorem hex_le {l : List UInt8} {least most p v q : Nat} (h : hex l least most p = some (v, q)) (hp : p ≤ l.length) : p ≤ q ∧ q ≤ l.length ∧ v ≤ 1114111 := by
  unfold hex at h
  split at h
  · cases h
  · rename_i n v' q' hg
    split at h
    · cases h
    · simp only [Option.some.injEq, Prod.mk.injEq] at h
      obtain ⟨rfl, rfl⟩ := h
      have h1 := hexGo_le _ _ _ _ _ _ _ _ hg hp
      exact ⟨h1.1, h1.2, hexGo_val _ _ _ _ _ _ _ _ hg (by omega)⟩
theorem decode_fits (s : ByteArray) (pos : Nat) (h : pos < s.size) : pos + (Utf8.decode s pos).2 ≤ s.size := by
  unfold Utf8.decode
  simp only
  repeat' split
  all_goals simp_all
  all_goals omega
theorem pointB_len (r : Nat) : (pointB r).length ≤ 4 := by
  unfold pointB u16; split
  · simp
  · split <;> simp
theorem u16_len (n : Nat) : (u16 n).length = 2 := rfl
theorem plain_le {l : List UInt8} {p : Nat} (hp : p < l.length) : p < (plain l p).2 ∧ (plain l p).2 ≤ l.length ∧ (plain l p).1.length ≤ 4 := by
  unfold plain Lib.decodeL
  have h1 := Lib.width_pos ⟨(l.drop p).toArray⟩ 0
  have h2 := decode_fits ⟨(l.drop p).toArray⟩ 0 (by simp [ByteArray.size]; omega)
  simp [ByteArray.size] at h2
  exact ⟨by simp only; omega, by simp only; omega, pointB_len _⟩
theorem escape_le {l : List UInt8} {p : Nat} {u : List UInt8} {q : Nat} (h : escape l p = some (u, q)) : p < q ∧ q ≤ l.length ∧ u.length ≤ 4 := by
  unfold escape at h
  simp only at h
  split at h
  · cases h
  rename_i hlt
  have hlt : p < l.length := by omega
  split at h
  · simp only [Option.some.injEq, Prod.mk.injEq] at h
    obtain ⟨rfl, rfl⟩ := h
    exact ⟨by omega, by omega, by rw [u16_len]; omega⟩
  split at h
  · rename_i hcr
    have := pre_le hcr (by omega)
    simp only [Option.some.injEq, Prod.mk.injEq] at h
    obtain ⟨rfl, rfl⟩ := h
    simp at this
    exact ⟨by omega, by omega, by simp⟩
  split at h
  · rename_i q' hnl
    have := nl_le hnl (by omega)
    simp only [Option.some.injEq, Prod.mk.injEq] at h
    obtain ⟨rfl, rfl⟩ := h
    exact ⟨by omega, by omega, by simp⟩
  split at h
  · split at h
    · cases h
    · simp only [Option.some.injEq, Prod.mk.injEq] at h
      obtain ⟨rfl, rfl⟩ := h
      exact ⟨by omega, by omega, by simp⟩
  split at h
  · simp only [Option.map_eq_some_iff, Prod.mk.injEq] at h
    obtain ⟨⟨v, r⟩, hx, rfl, rfl⟩ := h
    have := hex_le hx (by omega)
    exact ⟨by simp only; omega, by simp only; omega, by rw [u16_len]; omega⟩
  split at h
  · rename_i hb
    have hb2 : pk l (p + 1) = 123 := by simp only [Bool.and_eq_true, beq_iff_eq] at hb; exact hb.2
    have hl2 : p + 1 < l.length := pk_lt (by rw [hb2]; decide)
    split at h
    · cases h
    · rename_i r q' hx
      have := hex_le hx (by omega)
      split at h
      · cases h
      · rename_i ht
        have hlq : q' < l.length := pk_lt (by simp only [bne_iff_ne, ne_eq, Decidable.not_not] at ht; rw [ht]; decide)
        simp only [Option.some.injEq, Prod.mk.injEq] at h
        obtain ⟨rfl, rfl⟩ := h
        exact ⟨by omega, by omega, pointB_len _⟩
  split at h
  · simp only [Option.map_eq_some_iff, Prod.mk.injEq] at h
    obtain ⟨⟨v, r⟩, hx, rfl, rfl⟩ := h
    have := hex_le hx (by omega)
    exact ⟨by simp only; omega, by simp only; omega, by rw [u16_len]; omega⟩
  · simp only [Option.some.injEq] at h
    have := plain_le hlt
    rw [h] at this
    exact this
end Go.Lx

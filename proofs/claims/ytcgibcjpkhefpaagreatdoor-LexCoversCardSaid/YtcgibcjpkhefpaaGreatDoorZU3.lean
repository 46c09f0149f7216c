/-
  lex.Quote (13): the text literal of given units.
-/
import Derived.Test.YtcgibcjpkhefpaaGreatDoorZL
import Derived.Laws.IdiomStrings
namespace Go.Proofs.YtcgibcjpkhefpaaGreatDoor
open Go.RowKit
theorem info5 : (Tryz.prog.info? 5).map (fun i => (i.zero, i.size, i.bytes)) = some (some (.int .u8 0), 1, 1) := by kernel_rfl
def u8V (c : UInt8) : Value := .int .u8 c.toNat
/-- A row stands where its block stands. -/
theorem own_mv {w w' : World} {B n sz : Nat} {e : TypeId} {v : Value} {xs : List Value} (h : w.ownsRow B e sz v n xs) (hk : ∀ g c, v.ownBlock = some g → w.heap[g]? = some (.cells c e (0, 0)) → w'.heap[g]? = some (.cells c e (0, 0))) : w'.ownsRow B e sz v n xs := by
  obtain ⟨h1, h2⟩ := h
  refine ⟨h1, ?_⟩
  rcases h2 with h2 | ⟨g, cap, cur, hv, hg, hh, r⟩
  · exact Or.inl h2
  · exact Or.inr ⟨g, cap, cur, hv, hg, hk g cur (by rw [hv]; rfl) hh, r⟩
theorem own_below {w w' : World} {B n sz : Nat} {e : TypeId} {v : Value} {xs : List Value} (h : w.ownsRow B e sz v n xs) (hb : Below w.heap.size w w') : w'.ownsRow B e sz v n xs :=
  own_mv h (fun g c _ hc => by rw [hb.block g (lt_of_heap hc)]; exact hc)
/-- An append onto a row of another type leaves a row alone. -/
theorem own_other {w w' : World} {B n sz : Nat} {e : TypeId} {v : Value} {xs : List Value} {B' n' sz' : Nat} {e' : TypeId} {v' : Value} {xs' : List Value} (h : w.ownsRow B e sz v n xs) (h' : w.ownsRow B' e' sz' v' n' xs') (he : e ≠ e') (hg : w.grownBy w' v'.ownBlock) : w'.ownsRow B e sz v n xs :=
  own_mv h (fun g c _ hc => by
    rw [hg.block g (lt_of_heap hc) (fun hk => ?_)]
    · exact hc
    · rcases h'.2 with ⟨hv, _⟩ | ⟨g2, cap, cur, hv, _, hh, _⟩
      · rw [hv] at hk; cases hk
      · rw [hv] at hk
        have e2 : g = g2 := Option.some.inj hk
        subst e2
        rw [hc] at hh
        injection hh with hh
        injection hh with _ hh _
        exact he hh)
theorem own_form {w : World} {B n sz : Nat} {e : TypeId} {v : Value} {xs : List Value} (h : w.ownsRow B e sz v n xs) : ∃ a cap, v = .slice a n cap := by
  rcases h.2 with ⟨rfl, rfl⟩ | ⟨g, cap, cur, hv, _⟩
  · exact ⟨none, 0, rfl⟩
  · exact ⟨_, cap, hv⟩
theorem own_cells {w : World} {B n cap : Nat} {a : Option Addr} {e : TypeId} {xs : List Value} (h : w.ownsRow B e 1 (.slice a n cap) n xs) (h0 : 0 < n) : ∃ g, a = some ⟨g, 0, none⟩ ∧ n ≤ cap ∧ cap ≤ maxLen ∧ ∀ i u, xs[i]? = some u → w.cell? ⟨g, i, none⟩ = some u := by
  rcases h.2 with ⟨_, hn⟩ | ⟨g, cap', cur, hv, hg, hh, hc1, hm, hc3, hc4⟩
  · omega
  · injection hv with h1 h2 h3
    subst h3
    refine ⟨g, h1, hc1, hm, fun i u hi => ?_⟩
    rw [cellU hh i]
    have hlen : i < xs.length := (List.getElem?_eq_some_iff.1 hi).1
    have hl := h.1
    have h4 : (cur.toList.take (n * 1))[i]? = some u := by rw [hc4]; exact hi
    rw [List.getElem?_take_of_lt (by omega)] at h4
    simpa using h4
/-- A new row written out. -/
theorem own_new (w : World) (e : TypeId) (l : List Value) (h : l.length ≤ maxLen) : (w.alloc (.cells l.toArray e)).ownsRow w.heap.size e 1 (.slice (some ⟨w.heap.size, 0, none⟩) l.length l.length) l.length l :=
  ⟨by simp, Or.inr ⟨w.heap.size, l.length, l.toArray, rfl, Nat.le_refl _, heap_alloc_new _ _, Nat.le_refl _, h, by simp, by simp⟩⟩
theorem u8_in (x : Int) (h : 0 ≤ x ∧ x < 256) : IntKind.u8.wrap x = x := by
  simp [IntKind.wrap, IntKind.signed, IntKind.bits]
  omega
theorem q1_34 : Lx.q1 34 = [92, 34] := rfl
theorem q1_92 : Lx.q1 92 = [92, 92] := rfl
theorem q1_mid {u : Nat} (h : u ≠ 34) (h' : u ≠ 92) (h1 : 32 ≤ u) (h2 : u ≤ 126) : Lx.q1 u = [UInt8.ofNat u] := by
  simp [Lx.q1, h, h', h1, h2]
theorem q1_out {u : Nat} (h : u ≠ 34) (h' : u ≠ 92) (h1 : ¬ (32 ≤ u ∧ u ≤ 126)) : Lx.q1 u = [92, 117, Lx.hx (u / 4096 % 16), Lx.hx (u / 256 % 16), Lx.hx (u / 16 % 16), Lx.hx (u % 16)] := by
  simp only [Lx.q1, h, h', h1, or_self, if_false]
end Go.Proofs.YtcgibcjpkhefpaaGreatDoor

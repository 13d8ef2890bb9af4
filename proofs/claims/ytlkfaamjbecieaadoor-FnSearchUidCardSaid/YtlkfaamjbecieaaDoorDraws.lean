/- WALKS: the arguments of the laws of mailboxes. -/
import Derived.Test.YtlkfaamjbecieaaDoorDrawBox
namespace Go.Proofs.YtlkfaamjbecieaaDoor
open Go.RowKit
set_option linter.unusedVariables false

/-- A drawn mailbox: its bounds, its row, which the call owns. -/
def Drawn (w : World) (base : Nat) (s : Value) (b : B) : Prop := (0 ≤ b.next ∧ b.next ≤ 102 ∧ b.mail.length ≤ 10) ∧ Own w base s b.mail
theorem Drawn.box {w : World} {base : Nat} {s : Value} {b : B} (h : Drawn w base s b) : BoxAt w (.agg #[.int .i64 b.next, s]) b := ⟨_, rfl, h.2.mail (by have := h.1; omega)⟩
theorem Drawn.more {w : World} {base base' : Nat} {s : Value} {b : B} (h : Drawn w base s b) (hb : base' ≤ base) : Drawn w base' s b := ⟨h.1, h.2.more hb⟩
theorem Drawn.below {w w' : World} {base : Nat} {s : Value} {b : B} (h : Drawn w base s b) (hb : Below w.heap.size w w') : Drawn w' base s b := ⟨h.1, h.2.below hb⟩
theorem Drawn.grown {w w' : World} {base r : Nat} {s : Value} {b : B} (h : Drawn w base s b) (g : w.grownBy w' (some r)) (hr : r < base) : Drawn w' base s b := ⟨h.1, h.2.grown g hr⟩
theorem Drawn.slice {w : World} {base : Nat} {s : Value} {b : B} (h : Drawn w base s b) : ∃ a cap, s = .slice a b.mail.length cap := h.2.slice

theorem CodeAt.below {w w' : World} {a : Option Addr} {len : Nat} (h : CodeAt w a len) (hb : Below w.heap.size w w') : CodeAt w' a len := by
  rcases h with h | ⟨b, off, ha, hlt, h⟩
  · exact .inl h
  · refine .inr ⟨b, off, ha, by have := hb.size; omega, fun i hi => ?_⟩
    obtain ⟨n, hn, hc⟩ := h i hi
    exact ⟨n, hn, (hb.cell (p := ⟨b, _, none⟩) hlt).trans hc⟩

/-- A mailbox's block is no code. -/
theorem Rd.box {w : World} {r K k l c : Nat} {x : Int} {a : Option Addr} (h : Rd w r K) (hz : w.heap[k]? = some (.cells #[.int .i64 x, .slice a l c] 25 (0, 0))) (hk : k ≠ r) (o : Nat) (u : Value) : Rd (w.setCell ⟨k, o, none⟩ u) r K := by
  obtain ⟨a', len, cap, p, hp, hl, hh, hc⟩ := h
  refine ⟨a', len, cap, p, hp, hl, (Below.heap_setCell _ _ _ _ (by show r ≠ k; omega)).trans hh, ?_⟩
  rcases hc with h0 | ⟨b, off, ha, hb, hc⟩
  · exact .inl h0
  · by_cases hl0 : len = 0
    · exact .inl hl0
    · have hne : b ≠ k := by
        intro e
        obtain ⟨n, hn, hcell⟩ := hc 0 (by omega)
        subst e
        rw [Nat.add_zero] at hcell
        simp only [World.cell?, hz] at hcell
        match off, hcell with
        | 0, h => simp at h
        | 1, h => simp at h
        | off + 2, h => simp at h
      refine .inr ⟨b, off, ha, hb, fun i hi => ?_⟩
      obtain ⟨n, hn, hcell⟩ := hc i hi
      exact ⟨n, hn, (World.cell?_of_block (w := w) (Below.heap_setCell _ _ _ _ (by show b ≠ k; exact hne))).trans hcell⟩
theorem res_kept {w v w' : World} {o : Obj} {r k : Nat} (z : w.heap[k]? = some o) (g : v.grownBy w' (some r)) (hv : v.heap = w.heap) (hk : k ≠ r) : w'.heap[k]? = some o := (g.block _ (by rw [hv]; exact lt_of_block z) (by simp; exact hk)).trans (by rw [hv]; exact z)
theorem res_set {w v w' : World} {x y u u' : Value} {t : TypeId} {r k : Nat} (z : w.heap[k]? = some (.cells #[x, y] t (0, 0))) (g : v.grownBy w' (some r)) (hv : v.heap = ((w.setCell ⟨k, 0, none⟩ u).setCell ⟨k, 1, none⟩ u').heap) (hk : k ≠ r) : w'.heap[k]? = some (.cells #[u, u'] t (0, 0)) :=
  (g.block _ (by rw [hv]; simpa using lt_of_block z) (by simp; exact hk)).trans (by rw [hv]; exact set_one (set_zero z))

theorem l91Box_at (r K : Nat) (hK : K + 200 ≤ 1000000) (w : World) (h : Rd w r K) :
    Calls Tryd.prog 29 #[.pointer (some ⟨r, 0, none⟩)] w fun e w' => ∃ (b : B) (a : Option Addr) (cap : Nat), e = .returned (.agg #[.int .i64 b.next, .slice a b.mail.length cap]) ∧ Drawn w' w.heap.size (.slice a b.mail.length cap) b ∧ Rd w' r (K + 100) ∧ w.grownBy w' (some r) := by
  refine (l91Box_any r K hK w h).mono ?_
  rintro e w' ⟨b, s, rfl, hb, ho, hr, hg⟩
  obtain ⟨a, cap, rfl⟩ := ho.slice
  exact ⟨b, a, cap, rfl, ⟨hb, ho⟩, hr, hg⟩
end Go.Proofs.YtlkfaamjbecieaaDoor

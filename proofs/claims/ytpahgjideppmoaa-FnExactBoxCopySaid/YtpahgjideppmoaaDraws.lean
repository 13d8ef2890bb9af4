/- WALKS: the arguments of the laws of mailboxes. -/
import Derived.Test.YtpahgjideppmoaaDrawBox
namespace Go.Proofs.Ytpahgjideppmoaa
open Go.RowKit
set_option linter.unusedVariables false

/-- A drawn mailbox: its bounds, its row, which the call owns. -/
def Drawn (w : World) (base : Nat) (s : Value) (b : B) : Prop := (0 ≤ b.next ∧ b.next ≤ 102 ∧ b.mail.length ≤ 10) ∧ Own w base s b.mail
theorem Drawn.box {w : World} {base : Nat} {s : Value} {b : B} (h : Drawn w base s b) : BoxAt w (.agg #[.int .i64 b.next, s]) b := ⟨_, rfl, h.2.mail (by have := h.1; omega)⟩
theorem Drawn.more {w : World} {base base' : Nat} {s : Value} {b : B} (h : Drawn w base s b) (hb : base' ≤ base) : Drawn w base' s b := ⟨h.1, h.2.more hb⟩
theorem Drawn.below {w w' : World} {base : Nat} {s : Value} {b : B} (h : Drawn w base s b) (hb : Below w.heap.size w w') : Drawn w' base s b := ⟨h.1, h.2.below hb⟩
theorem Drawn.grown {w w' : World} {base r : Nat} {s : Value} {b : B} (h : Drawn w base s b) (g : w.grownBy w' (some r)) (hr : r < base) : Drawn w' base s b := ⟨h.1, h.2.grown g hr⟩
theorem Drawn.slice {w : World} {base : Nat} {s : Value} {b : B} (h : Drawn w base s b) : ∃ a cap, s = .slice a b.mail.length cap := h.2.slice

theorem CodeAt.below {w w' : World} {a : Option Addr} {len : Nat} (h : CodeAt w a len) (hb : Below w.heap.size w w') : CodeAt w' a len := by
  rcases h with h | ⟨b, off, ha, hlt, h⟩
  · exact .inl h
  · refine .inr ⟨b, off, ha, by have := hb.size; omega, fun i hi => ?_⟩
    obtain ⟨n, hn, hc⟩ := h i hi
    exact ⟨n, hn, (hb.cell (p := ⟨b, _, none⟩) hlt).trans hc⟩

/-- A mailbox's block is no code. -/
theorem Rd.box {w : World} {r K k l c : Nat} {x : Int} {a : Option Addr} (h : Rd w r K) (hz : w.heap[k]? = some (.cells #[.int .i64 x, .slice a l c] 29 (0, 0))) (hk : k ≠ r) (o : Nat) (u : Value) : Rd (w.setCell ⟨k, o, none⟩ u) r K := by
  obtain ⟨a', len, cap, p, hp, hl, hh, hc⟩ := h
  refine ⟨a', len, cap, p, hp, hl, (Below.heap_setCell _ _ _ _ (by show r ≠ k; omega)).trans hh, ?_⟩
  rcases hc with h0 | ⟨b, off, ha, hb, hc⟩
  · exact .inl h0
  · by_cases hl0 : len = 0
    · exact .inl hl0
    · have hne : b ≠ k := by
        intro e
        obtain ⟨n, hn, hcell⟩ := hc 0 (by omega)
        subst e
        rw [Nat.add_zero] at hcell
        simp only [World.cell?, hz] at hcell
        match off, hcell with
        | 0, h => simp at h
        | 1, h => simp at h
        | off + 2, h => simp at h
      refine .inr ⟨b, off, ha, hb, fun i hi => ?_⟩
      obtain ⟨n, hn, hcell⟩ := hc i hi
      exact ⟨n, hn, (World.cell?_of_block (w := w) (Below.heap_setCell _ _ _ _ (by show b ≠ k; exact hne))).trans hcell⟩
theorem res_kept {w v w' : World} {o : Obj} {r k : Nat} (z : w.heap[k]? = some o) (g : v.grownBy w' (some r)) (hv : v.heap = w.heap) (hk : k ≠ r) : w'.heap[k]? = some o := (g.block _ (by rw [hv]; exact lt_of_block z) (by simp; exact hk)).trans (by rw [hv]; exact z)
theorem res_set {w v w' : World} {x y u u' : Value} {t : TypeId} {r k : Nat} (z : w.heap[k]? = some (.cells #[x, y] t (0, 0))) (g : v.grownBy w' (some r)) (hv : v.heap = ((w.setCell ⟨k, 0, none⟩ u).setCell ⟨k, 1, none⟩ u').heap) (hk : k ≠ r) : w'.heap[k]? = some (.cells #[u, u'] t (0, 0)) :=
  (g.block _ (by rw [hv]; simpa using lt_of_block z) (by simp; exact hk)).trans (by rw [hv]; exact set_one (set_zero z))

theorem l91Box_at (r K : Nat) (hK : K + 200 ≤ 1000000) (w : World) (h : Rd w r K) :
    Calls Try.prog 29 #[.pointer (some ⟨r, 0, none⟩)] w fun e w' => ∃ (b : B) (a : Option Addr) (cap : Nat), e = .returned (.agg #[.int .i64 b.next, .slice a b.mail.length cap]) ∧ Drawn w' w.heap.size (.slice a b.mail.length cap) b ∧ Rd w' r (K + 100) ∧ w.grownBy w' (some r) := by
  refine (l91Box_any r K hK w h).mono ?_
  rintro e w' ⟨b, s, rfl, hb, ho, hr, hg⟩
  obtain ⟨a, cap, rfl⟩ := ho.slice
  exact ⟨b, a, cap, rfl, ⟨hb, ho⟩, hr, hg⟩
theorem DrawBoxValid_any (a : Option Addr) (len cap : Nat) (hcap : len ≤ cap) (w : World) (hc : CodeAt w a len) :
    Calls Try.prog 15 #[.slice a len cap] w fun e w' => ∃ (b : B) (a : Option Addr) (cap : Nat), e = .returned (.agg #[.int .i64 b.next, .slice a b.mail.length cap]) ∧ Drawn w' w.heap.size (.slice a b.mail.length cap) b ∧ Below w.heap.size w w' := by
  go_enter Try.func15, Try.ntmps15
  go_wp2_with fail
  obtain ⟨w0, hw0⟩ : ∃ w0, w0 = w.alloc (.cells #[.int .i64 0, .slice none 0 0] 29) := ⟨_, rfl⟩
  have z0 : w0.heap[w.heap.size]? = some (.cells #[.int .i64 0, .slice none 0 0] 29 (0, 0)) := by rw [hw0]; exact heap_alloc_new w _
  have b0 : Below w.heap.size w w0 := by rw [hw0]; exact (Below.refl _ _).alloc (Nat.le_refl _) _
  have s0 : w0.heap.size = w.heap.size + 1 := by rw [hw0]; simp
  rw [← hw0]
  refine (l6Open_any a len cap hcap w0 (hc.below b0)).mono ?_
  clear hc hw0
  rintro e w1 ⟨r, hr, rfl, h1, b1⟩
  have z1 := (b1.block _ (by omega)).trans z0
  have b1' := b0.trans (b1.mono b0.size)
  have s1 := b1.size
  clear z0 b0 b1
  go_wp2_with fail
  refine (l91Box_at r 0 (by omega) _ h1).mono ?_
  rintro e w2 ⟨b, a2, cap2, rfl, hb, h2, g2⟩
  have z2 := (g2.block w.heap.size (by omega) (by simp; omega)).trans z1
  have b2 := b1'.grown g2 b1'.size (fun k hk => by cases hk; omega)
  have HB := Lib.hid hb
  have s2 := g2.size
  clear b1' g2 h1 h2 hb z1
  obtain ⟨c0, c1, f0, f1⟩ := two_cells z2
  clear z2
  go_wp2_with fail
  refine bodyPost_ret (v := .agg #[.int .i64 b.next, .slice a2 b.mail.length cap2]) (by simp [results, Try.results15, go_sem, *]) rfl ⟨b, _, _, rfl, ?_, ?_⟩
  · exact ⟨HB.out.1, ((HB.out.2.setLow (by show w.heap.size < _; omega) _).setLow (by show w.heap.size < _; omega) _).more (by omega)⟩
  · exact (b2.setCell (by show w.heap.size ≤ w.heap.size; omega) _).setCell (by show w.heap.size ≤ w.heap.size; omega) _
end Go.Proofs.Ytpahgjideppmoaa

/- MESSAGES IN MEMORY: a mailbox that is being drawn: what each step leaves. -/
import Derived.Test.YtpahgjideppmoaaDrawText
import Derived.Test.YtpahgjideppmoaaAppend
import Derived.Test.YtpahgjideppmoaaExpunge
namespace Go.Proofs.Ytpahgjideppmoaa
open Go.RowKit
set_option linter.unusedVariables false

theorem grown_set {w a : World} {row : Option Nat} (h : w.grownBy a row) {p : Addr} (hp : w.heap.size ≤ p.block) (u : Value) : w.grownBy (a.setCell p u) row :=
  ⟨h.os, h.tape, h.output, by simpa [World.setCell] using h.size, fun k hk hr => (Below.heap_setCell _ _ _ _ (by omega)).trans (h.block k hk hr)⟩
theorem grown_drew {w a : World} {row : Option Nat} (h : w.grownBy a row) : w.grownBy a.drew row := ⟨h.os, h.tape, h.output, h.size, h.block⟩
theorem grown_alloc {w a : World} {row : Option Nat} (h : w.grownBy a row) (o : Obj) : w.grownBy (a.alloc o) row := grown_trans h (World.grownBy_alloc _ _ _)
theorem grown_below {w a b : World} {row : Option Nat} (h : w.grownBy a row) (k : Below a.heap.size a b) : w.grownBy b row := grown_trans h (grown_of_below k)
theorem Rd.set {w : World} {r B : Nat} (h : Rd w r B) {p : Addr} (hp : r < p.block) (u : Value) : Rd (w.setCell p u) r B :=
  h.keep fun k hk => Below.heap_setCell _ _ _ _ (by omega)
theorem Rd.drew {w : World} {r B : Nat} (h : Rd w r B) : Rd w.drew r B := h.keep fun _ _ => rfl
theorem Rd.alloc {w : World} {r B : Nat} (h : Rd w r B) (o : Obj) : Rd (w.alloc o) r B := h.below ((Below.refl _ _).alloc (Nat.le_refl _) _)
theorem Own.grown {w w' : World} {base r : Nat} {v : Value} {l : List M} (h : Own w base v l) (g : w.grownBy w' (some r)) (hr : r < base) : Own w' base v l := by
  refine World.ownsRow.kept h g ?_
  rcases h.2 with ⟨rfl, _⟩ | ⟨g, cap, cur, rfl, hb, _⟩
  · exact .inl rfl
  · right; intro e; simp [Value.ownBlock] at e; omega
theorem Own.drew {w : World} {base : Nat} {v : Value} {l : List M} (h : Own w base v l) : Own w.drew base v l := World.ownsRow.drew h
theorem Own.box {w : World} {base k : Nat} {v x y : Value} {l : List M} (h : Own w base v l) (hh : w.heap[k]? = some (.cells #[x, y] 29 (0, 0))) (o : Nat) (u : Value) : Own (w.setCell ⟨k, o, none⟩ u) base v l :=
  row_set h hh (by decide) o u
theorem Own.slice {w : World} {base : Nat} {v : Value} {l : List M} (h : Own w base v l) : ∃ a cap, v = .slice a l.length cap := by
  rcases h.2 with ⟨h, h0⟩ | ⟨g, cap, cur, h, _⟩
  · exact ⟨none, 0, by rw [h0]; exact h⟩
  · exact ⟨_, cap, h⟩
theorem rowOf_set : ∀ (l : List M) (i : Nat) (m : M), l[i]? = some m →
    (∀ u, (rowOf l).set (i * 3) (.int .i64 u) = rowOf (l.set i { m with uid := u })) ∧ (∀ f, (rowOf l).set (i * 3 + 1) (.int .i64 f) = rowOf (l.set i { m with flags := f }))
  | [], i, m, h => by simp at h
  | a :: l, 0, m, h => by
    simp only [List.getElem?_cons_zero, Option.some.injEq] at h
    subst h
    exact ⟨fun u => rfl, fun f => rfl⟩
  | a :: l, i + 1, m, h => by
    obtain ⟨k0, k1⟩ := rowOf_set l i m (by simpa using h)
    have e : (i + 1) * 3 = i * 3 + 3 := by omega
    refine ⟨fun u => ?_, fun f => ?_⟩
    · rw [e, List.set_cons_succ]
      show List.set (_ :: _ :: _ :: rowOf l) _ _ = _ :: _ :: _ :: rowOf _
      rw [← k0 u]; rfl
    · rw [e, List.set_cons_succ]
      show List.set (_ :: _ :: _ :: rowOf l) _ _ = _ :: _ :: _ :: rowOf _
      rw [← k1 f]; rfl
/-- One cell of an owned row is written. -/
theorem Own.put {w : World} {base g n cap : Nat} {l l' : List M} (h : Own w base (.slice (some ⟨g, 0, none⟩) n cap) l) (hn : n = l.length) (hl : l'.length = l.length) {j : Nat} (hj : j < l.length * 3) (u : Value) (he : rowOf l' = (rowOf l).set j u) :
    Own (w.setCell ⟨g, j, none⟩ u) base (.slice (some ⟨g, 0, none⟩) n cap) l' := by
  subst hn
  obtain ⟨h1, h2⟩ := h
  unfold Own
  rw [he, hl]
  refine ⟨by simpa using h1, ?_⟩
  rcases h2 with ⟨h2, _⟩ | ⟨g', cap', cur, h2, hb, hh, hn, hm, hs, ht⟩
  · cases h2
  · cases h2
    refine .inr ⟨g, cap, cur.setIfInBounds j u, rfl, hb, ?_, hn, hm, by simpa using hs, ?_⟩
    · have hlt := lt_of_block hh
      have h' : w.heap[g] = .cells cur 47 (0, 0) := by simpa [Array.getElem?_eq_getElem hlt] using hh
      show (w.heap.modify g _)[g]? = _
      rw [Array.getElem?_eq_getElem (by simpa using hlt), Array.getElem_modify_self, h']
      rfl
    · rw [Array.toList_setIfInBounds, List.take_set, ht]
/-- The mailbox that is being drawn: its counter, its block, its row, the block of the result. -/
structure Mid (w : World) (r base pb K : Nat) (b : B) (s : Value) (v : World) : Prop where
  rd : Rd v r K
  box : v.heap[pb]? = some (.cells #[.int .i64 b.next, s] 29 (0, 0))
  own : Own v base s b.mail
  zero : v.heap[w.heap.size]? = some (.cells #[.int .i64 0, .slice none 0 0] 29 (0, 0))
  gr : w.grownBy v (some r)
  h1 : r < w.heap.size
  h2 : w.heap.size < base
  h3 : base ≤ pb
theorem Mid.call {w v v' : World} {r base pb K K' : Nat} {b : B} {s : Value} (h : Mid w r base pb K b s v) (hr : Rd v' r K') (hg : v.grownBy v' (some r)) : Mid w r base pb K' b s v' :=
  have := h.h1; have := h.h2; have := h.h3
  ⟨hr, (hg.block _ (lt_of_block h.box) (by simp; omega)).trans h.box, h.own.grown hg (by omega), (hg.block _ (lt_of_block h.zero) (by simp; omega)).trans h.zero, grown_trans h.gr hg, h.h1, h.h2, h.h3⟩
theorem Mid.below {w v v' : World} {r base pb K : Nat} {b : B} {s : Value} (h : Mid w r base pb K b s v) (hb : Below v.heap.size v v') : Mid w r base pb K b s v' := h.call (h.rd.below hb) (grown_of_below hb)
theorem Mid.alloc {w v : World} {r base pb K : Nat} {b : B} {s : Value} (h : Mid w r base pb K b s v) (o : Obj) : Mid w r base pb K b s (v.alloc o) := h.below ((Below.refl _ _).alloc (Nat.le_refl _) _)
theorem Mid.drew {w v : World} {r base pb K : Nat} {b : B} {s : Value} (h : Mid w r base pb K b s v) : Mid w r base pb K b s v.drew := h.below (Below.refl _ _).drew
theorem Mid.more {w v : World} {r base pb K K' : Nat} {b : B} {s : Value} (h : Mid w r base pb K b s v) (hK : K ≤ K') : Mid w r base pb K' b s v := ⟨h.rd.more hK, h.box, h.own, h.zero, h.gr, h.h1, h.h2, h.h3⟩
/-- Another next number. -/
theorem Mid.next {w v : World} {r base pb K : Nat} {b : B} {s : Value} (h : Mid w r base pb K b s v) (n : Int) : Mid w r base pb K ⟨n, b.mail⟩ s (v.setCell ⟨pb, 0, none⟩ (.int .i64 n)) :=
  have := h.h1; have := h.h2; have := h.h3
  ⟨h.rd.set (by show r < pb; omega) _, set_zero h.box, h.own.box h.box _ _, (Below.heap_setCell _ _ _ _ (by show _ ≠ pb; omega)).trans h.zero, grown_set h.gr (by show _ ≤ pb; omega) _, h.h1, h.h2, h.h3⟩
/-- Another mailbox. -/
theorem Mid.put {w v : World} {r base pb K : Nat} {b b' : B} {s s' : Value} (h : Mid w r base pb K b s v) (ho : Own v base s' b'.mail) : Mid w r base pb K b' s' ((v.setCell ⟨pb, 0, none⟩ (.int .i64 b'.next)).setCell ⟨pb, 1, none⟩ s') :=
  have := h.h1; have := h.h2; have := h.h3
  ⟨(h.rd.set (by show r < pb; omega) _).set (by show r < pb; omega) _, set_one (set_zero h.box), (ho.box h.box _ _).box (set_zero h.box) _ _,
    (Below.heap_setCell _ _ _ _ (by show _ ≠ pb; omega)).trans ((Below.heap_setCell _ _ _ _ (by show _ ≠ pb; omega)).trans h.zero), grown_set (grown_set h.gr (by show _ ≤ pb; omega) _) (by show _ ≤ pb; omega) _, h.h1, h.h2, h.h3⟩
/-- Another message. -/
theorem Mid.mail {w v : World} {r base pb K g n cap : Nat} {b : B} {l' : List M} (h : Mid w r base pb K b (.slice (some ⟨g, 0, none⟩) n cap) v) (hn : n = b.mail.length) (hl : l'.length = b.mail.length) {j : Nat} (hj : j < b.mail.length * 3) (u : Value) (he : rowOf l' = (rowOf b.mail).set j u) :
    Mid w r base pb K ⟨b.next, l'⟩ (.slice (some ⟨g, 0, none⟩) n cap) (v.setCell ⟨g, j, none⟩ u) := by
  have e1 := h.h1; have e2 := h.h2; have e3 := h.h3
  have hg : base ≤ g := by
    rcases h.own.2 with ⟨h2, _⟩ | ⟨g', cap', cur, h2, hb, _⟩
    · cases h2
    · cases h2; exact hb
  have hgp : pb ≠ g := by
    intro e
    rcases h.own.2 with ⟨h2, _⟩ | ⟨g', cap', cur, h2, hb, hh, _⟩
    · cases h2
    · cases h2
      rw [← e, h.box] at hh
      simp at hh
  exact ⟨h.rd.set (by show r < g; omega) _, (Below.heap_setCell _ _ _ _ hgp).trans h.box, h.own.put hn hl hj u he, (Below.heap_setCell _ _ _ _ (by show _ ≠ g; omega)).trans h.zero, grown_set h.gr (by show _ ≤ g; omega) _, e1, e2, e3⟩
/-- Another mailbox's cell is written. -/
theorem Mid.other {w v : World} {r base pb K k : Nat} {b : B} {s x y : Value} (h : Mid w r base pb K b s v) (hz : v.heap[k]? = some (.cells #[x, y] 29 (0, 0))) (hk : pb < k) (o : Nat) (u : Value) : Mid w r base pb K b s (v.setCell ⟨k, o, none⟩ u) :=
  have := h.h1; have := h.h2; have := h.h3
  ⟨h.rd.set (by show r < k; omega) _, (Below.heap_setCell _ _ _ _ (by show _ ≠ k; omega)).trans h.box, h.own.box hz _ _, (Below.heap_setCell _ _ _ _ (by show _ ≠ k; omega)).trans h.zero, grown_set h.gr (by show _ ≤ k; omega) _, h.h1, h.h2, h.h3⟩
/-! A block that was made just ahead of a call. -/
def NewAt (w : World) (r pb g : Nat) (o : Obj) : Prop := w.heap[g]? = some o ∧ r < g ∧ pb < g
theorem new0 {w w' : World} {o : Obj} {r pb : Nat} (g : (w.alloc o).grownBy w' (some r)) (h : r < w.heap.size) (h' : pb < w.heap.size) : NewAt w' r pb w.heap.size o := ⟨(g.block _ (by simp) (by simp; omega)).trans (heap_alloc_new w o), h, h'⟩
theorem new1 {w w' : World} {o : Obj} {r pb : Nat} (g : (w.alloc o).drew.grownBy w' (some r)) (h : r < w.heap.size) (h' : pb < w.heap.size) : NewAt w' r pb w.heap.size o := ⟨(g.block _ (by show _ < (w.alloc o).heap.size; simp) (by simp; omega)).trans (heap_alloc_new w o), h, h'⟩
theorem new2 {w w' : World} {o : Obj} {r pb : Nat} (g : (w.alloc o).drew.drew.grownBy w' (some r)) (h : r < w.heap.size) (h' : pb < w.heap.size) : NewAt w' r pb w.heap.size o := ⟨(g.block _ (by show _ < (w.alloc o).heap.size; simp) (by simp; omega)).trans (heap_alloc_new w o), h, h'⟩
theorem old_kept {w v w' : World} {o : Obj} {r pb k : Nat} (z : NewAt w r pb k o) (g : v.grownBy w' (some r)) (hv : v.heap = w.heap) : NewAt w' r pb k o := ⟨(g.block _ (by rw [hv]; exact lt_of_block z.1) (by simp; have := z.2.1; omega)).trans (by rw [hv]; exact z.1), z.2⟩
theorem ne_both {a b : Nat} (h : a < b) : ¬ (a = b) ∧ ¬ (b = a) := by omega
theorem Mid.lt {w v : World} {r base pb K : Nat} {b : B} {s : Value} (h : Mid w r base pb K b s v) : pb < v.heap.size ∧ w.heap.size < v.heap.size ∧ r < v.heap.size := by
  have e1 := h.h1; have e2 := h.h2; have e3 := h.h3
  have := lt_of_block h.box
  omega
theorem Own.form2 {w : World} {base cap : Nat} {a : Option Addr} {l : List M} (h : Own w base (.slice a l.length cap) l) (h0 : 0 < l.length) : ∃ g, a = some ⟨g, 0, none⟩ ∧ l.length ≤ cap ∧ base ≤ g ∧ g < w.heap.size := by
  rcases h.2 with ⟨_, h2⟩ | ⟨g, cap', cur, h2, hb, hh, hn, _⟩
  · omega
  · cases h2
    exact ⟨g, rfl, hn, hb, lt_of_block hh⟩
theorem Own.at {w : World} {base g n cap : Nat} {l : List M} (h : Own w base (.slice (some ⟨g, 0, none⟩) n cap) l) {i : Nat} (hi : i < l.length) :
    ∃ m, l[i]? = some m ∧ w.cell? ⟨g, i * 3, none⟩ = some (.int .i64 m.uid) ∧ w.cell? ⟨g, i * 3 + 1, none⟩ = some (.int .i64 m.flags) ∧ w.frozen? ⟨g, i * 3, none⟩ = false ∧ w.frozen? ⟨g, i * 3 + 1, none⟩ = false := by
  have hm := List.getElem?_eq_getElem hi
  obtain ⟨k0, k1, _⟩ := rowOf_at l i _ hm
  have c0 := World.ownsRow.cells h rfl _ _ k0
  have c1 := World.ownsRow.cells h rfl _ _ k1
  simp only [add_at, Nat.zero_add] at c0 c1
  refine ⟨_, hm, c0, c1, ?_⟩
  rcases h.2 with ⟨h2, _⟩ | ⟨g', cap', cur, h2, hb, hh, _⟩
  · cases h2
  · cases h2
    simp [World.frozen?, hh]
theorem Mid.gpb {w v : World} {r base pb K g n cap : Nat} {b : B} (h : Mid w r base pb K b (.slice (some ⟨g, 0, none⟩) n cap) v) : ¬ (pb = g) ∧ ¬ (g = pb) := by
  have : pb ≠ g := by
    intro e
    rcases h.own.2 with ⟨h2, _⟩ | ⟨g', cap', cur, h2, hb, hh, _⟩
    · cases h2
    · cases h2
      rw [← e, h.box] at hh
      simp at hh
  omega
theorem Mid.done {w v : World} {r base pb K K' : Nat} {b : B} {s u u' : Value} (h : Mid w r base pb K b s v) (hK : K ≤ K') :
    Own ((v.setCell ⟨w.heap.size, 0, none⟩ u).setCell ⟨w.heap.size, 1, none⟩ u') w.heap.size s b.mail ∧ Rd ((v.setCell ⟨w.heap.size, 0, none⟩ u).setCell ⟨w.heap.size, 1, none⟩ u') r K' ∧ w.grownBy ((v.setCell ⟨w.heap.size, 0, none⟩ u).setCell ⟨w.heap.size, 1, none⟩ u') (some r) :=
  ⟨((h.own.setLow (by show w.heap.size < base; exact h.h2) _).setLow (by show w.heap.size < base; exact h.h2) _).more (Nat.le_of_lt h.h2), ((h.rd.set h.h1 _).set h.h1 _).more hK, grown_set (grown_set h.gr (Nat.le_refl _) _) (Nat.le_refl _) _⟩
theorem Mid.cells {w v : World} {r base pb K : Nat} {b : B} {s : Value} (h : Mid w r base pb K b s v) :
    v.cell? ⟨pb, 0, none⟩ = some (.int .i64 b.next) ∧ v.cell? ⟨pb, 1, none⟩ = some s ∧ v.frozen? ⟨pb, 0, none⟩ = false ∧ v.frozen? ⟨pb, 1, none⟩ = false := two_cells h.box
end Go.Proofs.Ytpahgjideppmoaa

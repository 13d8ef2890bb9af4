/- BLOCKS KNOWN WHOLE behind allocs, draws and appends in a region that draws its order. -/
import Derived.Test.YtpahgjideppmoaaApp
import Derived.Test.YtpahgjideppmoaaBoxCell
namespace Go.Proofs.Ytpahgjideppmoaa
open Go.RowKit
set_option linter.unusedVariables false

theorem blk_alloc {W : World} {o o' : Obj} {k : Nat} (h : W.heap[k]? = some o) : (W.alloc o').heap[k]? = some o := (Below.heap_alloc W _ _ (lt_of_block h)).trans h
theorem blk_drew {W : World} {o : Obj} {k : Nat} (h : W.heap[k]? = some o) : W.drew.heap[k]? = some o := h
theorem blk_at {W : World} {t : TypeId} {c : Array Value} {k : Nat} (h : k = W.heap.size) : (W.alloc (.cells c t)).heap[k]? = some (.cells c t (0, 0)) := by rw [h]; exact heap_alloc_new W _
theorem blk_grow {W w' : World} {o : Obj} {k g : Nat} (hg : W.grownBy w' (some g)) (z : W.heap[k]? = some o) (h : k ≠ g) : w'.heap[k]? = some o := (hg.block _ (lt_of_block z) (by simp; exact h)).trans z
theorem blk_below {W w' : World} {o : Obj} {k : Nat} (hg : Below W.heap.size W w') (z : W.heap[k]? = some o) : w'.heap[k]? = some o := (hg.block _ (lt_of_block z)).trans z
theorem own_empty {W : World} {base e g s : Nat} (h : W.heap[g]? = some (.cells #[] e (0, 0))) (hb : base ≤ g) : W.ownsRow base e s (.slice (some ⟨g, 0, none⟩) 0 0) 0 [] :=
  ⟨by simp, .inr ⟨g, 0, #[], rfl, hb, h, Nat.le_refl _, by unfold maxLen; omega, by simp, by simp⟩⟩
theorem src_one {W : World} {t : TypeId} {k : Nat} {x : Value} (h : W.heap[k]? = some (.cells #[x] t (0, 0))) : Src W (some ⟨k, 0, none⟩) 1 1 [x] := by
  refine .inr ⟨_, rfl, fun j u hj => ?_⟩
  rcases j with _ | j
  · simp at hj; subst hj
    rw [add_at]
    simp [World.cell?, h]
  · simp at hj
theorem IntsAt.src {w : World} {g n c : Nat} {l : List Int} (h : IntsAt w (.slice (some ⟨g, 0, none⟩) n c) l) : Src w (some ⟨g, 0, none⟩) n c (l.map (Value.int .i64)) := by
  obtain ⟨a, n', c', he, hl, _, _, h⟩ := h
  cases he
  refine .inr ⟨_, rfl, fun j u hj => ?_⟩
  rw [List.getElem?_map] at hj
  rcases hx : l[j]? with _ | x
  · rw [hx] at hj; cases hj
  · rw [hx] at hj
    cases hj
    rcases h with h0 | ⟨b, off, ha, _, hc⟩
    · obtain ⟨hlt, _⟩ := List.getElem?_eq_some_iff.1 hx
      omega
    · cases ha
      rw [add_at]
      exact hc j x hx
theorem two_keep {W W' : World} {k : Nat} {u v : Value} (hb : Below W.heap.size W W') (hk : k < W.heap.size) (c0 : W.cell? ⟨k, 0, none⟩ = some u) (c1 : W.cell? ⟨k, 1, none⟩ = some v) : W'.cell? ⟨k, 0, none⟩ = some u ∧ W'.cell? ⟨k, 1, none⟩ = some v :=
  ⟨(hb.cell (p := ⟨k, 0, none⟩) hk).trans c0, (hb.cell (p := ⟨k, 1, none⟩) hk).trans c1⟩
theorem blk_have {T R : Prop} (h : T) (k : T → R) : R := k h
theorem own_lt {w : World} {base e g n c s : Nat} {xs : List Value} (h : w.ownsRow base e s (.slice (some ⟨g, 0, none⟩) n c) n xs) : base ≤ g ∧ g < w.heap.size := by
  rcases h.2 with ⟨he, _⟩ | ⟨g', cap, cur, he, hb, hh, _⟩
  · cases he
  · cases he; exact ⟨hb, lt_of_block hh⟩
theorem own_cat {W : World} {base g n c : Nat} {l r : List M} (h : W.ownsRow base 47 3 (.slice (some ⟨g, 0, none⟩) n c) n (rowOf l ++ rowOf r)) (hl : (l ++ r).length = n) : Own W base (.slice (some ⟨g, 0, none⟩) n c) (l ++ r) := by
  unfold Own
  rw [hl, rowOf_append]
  exact h
theorem blk_ne {w : World} {base e g n c k t s : Nat} {xs : List Value} {cs : Array Value} {fr : Nat × Nat} (h : w.ownsRow base e s (.slice (some ⟨g, 0, none⟩) n c) n xs) (z : w.heap[k]? = some (.cells cs t fr)) (ht : t ≠ e) : k ≠ g := by
  rcases h.2 with ⟨he, _⟩ | ⟨g', cap, cur, he, hb, hh, _⟩
  · cases he
  · cases he
    rintro rfl
    rw [hh] at z
    cases z
    exact ht rfl
theorem ints_one (l : List Int) : ∀ u ∈ l.map (Value.int .i64), u.oneCell' = true := by
  intro u hu
  obtain ⟨x, _, rfl⟩ := List.mem_map.1 hu
  rfl
/-- The fields of a fresh mailbox are stored. -/
theorem box_store {W : World} {p base : Nat} {b : B} {a : Option Addr} {cap : Nat} {x y : Value} (z : W.heap[p]? = some (.cells #[x, y] 29 (0, 0))) (h : Own W base (.slice a b.mail.length cap) b.mail) (hl : b.mail.length ≤ 4398046511104) :
    BoxCell ((W.setCell ⟨p, 0, none⟩ (.int .i64 b.next)).setCell ⟨p, 1, none⟩ (.slice a b.mail.length cap)) p base b a cap :=
  ⟨set_one (set_zero z), (h.box z 0 _).box (set_zero z) 1 _, hl⟩
theorem box_alloc {W : World} {base : Nat} {b : B} {a : Option Addr} {cap : Nat} (h : Own W base (.slice a b.mail.length cap) b.mail) (hl : b.mail.length ≤ 4398046511104) :
    BoxCell (W.alloc (.cells #[.int .i64 b.next, .slice a b.mail.length cap] 29)) W.heap.size base b a cap := ⟨heap_alloc_new W _, h.alloc _, hl⟩
end Go.Proofs.Ytpahgjideppmoaa

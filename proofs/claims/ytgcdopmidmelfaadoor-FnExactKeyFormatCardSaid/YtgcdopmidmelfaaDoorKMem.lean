/- KEYS IN MEMORY: a key as a value; its spans and its keys in blocks of a set S of blocks. -/
import Derived.Test.YtgcdopmidmelfaaDoorKPlain
import Derived.Handy
import Derived.WalkKit
import Derived.Below
namespace Go.Proofs.YtgcdopmidmelfaaDoor
open Go.RowKit
set_option linter.unusedVariables false

/-- All blocks of S are there. -/
def Ins (S : Nat → Prop) (w : World) : Prop := ∀ j, S j → j < w.heap.size
theorem Ins.lt {S : Nat → Prop} {w : World} (h : Ins S w) {j : Nat} (hj : S j) : j < w.heap.size := h j hj
theorem Ins.le {S : Nat → Prop} {w w' : World} (h : Ins S w) (hs : w.heap.size ≤ w'.heap.size) : Ins S w' := fun j hj => Nat.lt_of_lt_of_le (h j hj) hs
theorem Ins.below {S : Nat → Prop} {w w' : World} (h : Ins S w) (hb : Below w.heap.size w w') : Ins S w' := h.le hb.size
theorem Ins.of_lt {N : Nat} {w : World} (h : N ≤ w.heap.size) : Ins (· < N) w := fun j hj => Nat.lt_of_lt_of_le hj h
/-- A slice of spans that can be read, in a block of S. -/
def SetAt (w : World) (S : Nat → Prop) (v : Value) (l : List (Int × Int)) : Prop :=
  ∃ a n cap, v = .slice a n cap ∧ l.length = n ∧ n ≤ cap ∧ (n ≤ 4398046511104 ∧ (a = none → cap = 0)) ∧ (n = 0 ∨ ∃ b off, a = some ⟨b, off, none⟩ ∧ S b ∧
    ∀ i s, l[i]? = some s → w.cell? ⟨b, off + i * 2, none⟩ = some (.int .i64 s.1) ∧ w.cell? ⟨b, off + i * 2 + 1, none⟩ = some (.int .i64 s.2))
/-- A key as a value. -/
def KeyAt (w : World) (S : Nat → Prop) (k : K) (v : Value) : Prop :=
  ∃ sv a n cap, v = .agg #[.int .i64 k.kind, .int .i64 k.flag, .string k.text, sv, .slice a n cap] ∧ SetAt w S sv k.set ∧ k.keys.length = n ∧ n ≤ cap ∧ (n ≤ 4398046511104 ∧ (a = none → cap = 0)) ∧ (n = 0 ∨ ∃ b off, a = some ⟨b, off, none⟩ ∧ S b ∧
    ∀ i (h : i < k.keys.length), ∃ c0 c1 c2 c3 c4, w.cell? ⟨b, off + i * 5, none⟩ = some c0 ∧ w.cell? ⟨b, off + i * 5 + 1, none⟩ = some c1 ∧ w.cell? ⟨b, off + i * 5 + 2, none⟩ = some c2 ∧ w.cell? ⟨b, off + i * 5 + 3, none⟩ = some c3 ∧ w.cell? ⟨b, off + i * 5 + 4, none⟩ = some c4 ∧
      KeyAt w S k.keys[i] (.agg #[c0, c1, c2, c3, c4]))
termination_by SizeOf.sizeOf k
decreasing_by exact K.lt (List.getElem_mem _)
theorem SetAt.kept {w w' : World} {S S' : Nat → Prop} {v : Value} {l : List (Int × Int)} (h : SetAt w S v l) (hS : ∀ j, S j → S' j) (hk : ∀ j, S j → w'.heap[j]? = w.heap[j]?) : SetAt w' S' v l := by
  obtain ⟨a, n, cap, hv, hl, hc, hm, h⟩ := h
  refine ⟨a, n, cap, hv, hl, hc, hm, ?_⟩
  rcases h with h0 | ⟨b, off, ha, hb, h⟩
  · exact .inl h0
  · exact .inr ⟨b, off, ha, hS _ hb, fun i s hi => ⟨(World.cell?_of_block (w := w) (hk b hb)).trans (h i s hi).1, (World.cell?_of_block (w := w) (hk b hb)).trans (h i s hi).2⟩⟩
theorem SetAt.more {w : World} {S S' : Nat → Prop} {v : Value} {l : List (Int × Int)} (h : SetAt w S v l) (hS : ∀ j, S j → S' j) : SetAt w S' v l := h.kept hS fun _ _ => rfl
theorem KeyAt.kept {w w' : World} {S S' : Nat → Prop} (hS : ∀ j, S j → S' j) (hk : ∀ j, S j → w'.heap[j]? = w.heap[j]?) (k : K) : ∀ v, KeyAt w S k v → KeyAt w' S' k v := by
  induction k using K.ind with
  | h k ih =>
    intro v h
    rw [KeyAt] at h ⊢
    obtain ⟨sv, a, n, cap, hv, hs, hl, hc, hm, h⟩ := h
    refine ⟨sv, a, n, cap, hv, hs.kept hS hk, hl, hc, hm, ?_⟩
    rcases h with h0 | ⟨b, off, ha, hb, h⟩
    · exact .inl h0
    · refine .inr ⟨b, off, ha, hS _ hb, fun i hi => ?_⟩
      obtain ⟨c0, c1, c2, c3, c4, e0, e1, e2, e3, e4, hh⟩ := h i hi
      have q : ∀ o c, w.cell? ⟨b, o, none⟩ = some c → w'.cell? ⟨b, o, none⟩ = some c := fun o c e => (World.cell?_of_block (w := w) (hk b hb)).trans e
      exact ⟨c0, c1, c2, c3, c4, q _ _ e0, q _ _ e1, q _ _ e2, q _ _ e3, q _ _ e4, ih _ (List.getElem_mem _) _ hh⟩
theorem KeyAt.more {w : World} {S S' : Nat → Prop} {k : K} {v : Value} (h : KeyAt w S k v) (hS : ∀ j, S j → S' j) : KeyAt w S' k v := KeyAt.kept hS (fun _ _ => rfl) k v h
theorem KeyAt.below {w w' : World} {S : Nat → Prop} {k : K} {v : Value} (h : KeyAt w S k v) (hN : Ins S w) (hb : Below w.heap.size w w') : KeyAt w' S k v :=
  KeyAt.kept (fun _ h => h) (fun j hj => hb.block j (hN j hj)) k v h
theorem KeyAt.grown {w w' : World} {S : Nat → Prop} {r : Nat} {k : K} {v : Value} (h : KeyAt w S k v) (hN : Ins S w) (hg : w.grownBy w' (some r)) (hr : ¬ S r) : KeyAt w' S k v :=
  KeyAt.kept (fun _ h => h) (fun j hj => hg.block j (hN j hj) (by simp; intro e; subst e; exact hr hj)) k v h
theorem KeyAt.setCell {w : World} {S : Nat → Prop} {k : K} {v : Value} (h : KeyAt w S k v) {a : Addr} (ha : ¬ S a.block) (u : Value) : KeyAt (w.setCell a u) S k v :=
  KeyAt.kept (fun _ h => h) (fun j hj => Below.heap_setCell _ _ _ _ (by intro e; subst e; exact ha hj)) k v h
theorem SetAt.below {w w' : World} {S : Nat → Prop} {v : Value} {l : List (Int × Int)} (h : SetAt w S v l) (hN : Ins S w) (hb : Below w.heap.size w w') : SetAt w' S v l :=
  h.kept (fun _ h => h) fun j hj => hb.block j (hN j hj)
theorem SetAt.grown {w w' : World} {S : Nat → Prop} {r : Nat} {v : Value} {l : List (Int × Int)} (h : SetAt w S v l) (hN : Ins S w) (hg : w.grownBy w' (some r)) (hr : ¬ S r) : SetAt w' S v l :=
  h.kept (fun _ h => h) (fun j hj => hg.block j (hN j hj) (by simp; intro e; subst e; exact hr hj))
/-- Every text of the key is short. -/
inductive K.Fit : K → Prop
  | mk (k : K) (ht : k.text.size ≤ 1048576) (hk : ∀ c ∈ k.keys, K.Fit c) : K.Fit k
theorem K.Fit.text {k : K} (h : k.Fit) : k.text.size ≤ 1048576 := by cases h; assumption
theorem K.Fit.key {k c : K} (h : k.Fit) (hc : c ∈ k.keys) : c.Fit := by cases h with | mk _ _ h => exact h c hc
end Go.Proofs.YtgcdopmidmelfaaDoor

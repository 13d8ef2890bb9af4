/- WALKS: the arguments of the laws of keys. -/
import Derived.Test.YtlkfaamjbecieaaDoorDrawOdd
namespace Go.Proofs.YtlkfaamjbecieaaDoor
open Go.RowKit
set_option linter.unusedVariables false

theorem CodeAt.of_below {w w' : World} {a : Option Addr} {len : Nat} (h : CodeAt w a len) (hb : Below w.heap.size w w') : CodeAt w' a len := by
  rcases h with h | ⟨b, off, ha, hlt, h⟩
  · exact .inl h
  · refine .inr ⟨b, off, ha, by have := hb.size; omega, fun i hi => ?_⟩
    obtain ⟨n, hn, hc⟩ := h i hi
    exact ⟨n, hn, (hb.cell (p := ⟨b, _, none⟩) hlt).trans hc⟩
/-- A drawn key, once its reader is forgotten. -/
def DrawnKey (w : World) (e : Ending) (w' : World) : Prop :=
  ∃ (k : Go.Proofs.YtlkfaamjbecieaaDoor.K) (S : Nat → Prop) (v : Value), e = .returned v ∧ KeyAt w' S k v ∧ Ins S w' ∧ (∀ j, S j → w.heap.size ≤ j) ∧ k.Fit ∧ k.nodes + 1 ≤ 32 ∧ Below w.heap.size w w'
/-- What is known of a drawn key in a law: in its variable, in memory. -/
structure KL (w : World) (S : Nat → Prop) (k : Go.Proofs.YtlkfaamjbecieaaDoor.K) (kc : Array Value) (kb : Nat) (v : World) : Prop where
  key : KeyAt v S k (.agg kc)
  ins : Ins S v
  box : v.heap[kb]? = some (.cells kc 29 (0, 0))
  nS : ¬ S kb
  bel : Below w.heap.size w v
  lk : w.heap.size ≤ kb
theorem KL.below {w v v' : World} {S : Nat → Prop} {k : Go.Proofs.YtlkfaamjbecieaaDoor.K} {kc : Array Value} {kb : Nat} (h : KL w S k kc kb v) (hb : Below v.heap.size v v') : KL w S k kc kb v' :=
  ⟨h.key.below h.ins hb, h.ins.below hb, (hb.block _ (lt_of_block h.box)).trans h.box, h.nS, h.bel.trans (hb.mono h.bel.size), h.lk⟩
theorem KL.lt {w v : World} {S : Nat → Prop} {k : Go.Proofs.YtlkfaamjbecieaaDoor.K} {kc : Array Value} {kb : Nat} (h : KL w S k kc kb v) : kb < v.heap.size := lt_of_block h.box
theorem KeyAt.keys {w : World} {S : Nat → Prop} {k : K} {x0 x1 x2 x3 : Value} {a : Option Addr} {n cap : Nat} (h : KeyAt w S k (.agg #[x0, x1, x2, x3, .slice a n cap])) (hn : 0 < n) : ∃ b off, a = some ⟨b, off, none⟩ ∧
    ∀ i (h : i < k.keys.length), ∃ c0 c1 c2 c3 c4, w.cell? ⟨b, off + i * 5, none⟩ = some c0 ∧ w.cell? ⟨b, off + i * 5 + 1, none⟩ = some c1 ∧ w.cell? ⟨b, off + i * 5 + 2, none⟩ = some c2 ∧ w.cell? ⟨b, off + i * 5 + 3, none⟩ = some c3 ∧ w.cell? ⟨b, off + i * 5 + 4, none⟩ = some c4 ∧
      KeyAt w S k.keys[i] (.agg #[c0, c1, c2, c3, c4]) := by
  rw [KeyAt] at h
  obtain ⟨sv', a', n', cap', hv, hs, hl, hc, hm, h⟩ := h
  simp only [Value.agg.injEq, Array.mk.injEq, List.cons.injEq, and_true, Value.slice.injEq] at hv
  obtain ⟨_, _, _, _, rfl, rfl, rfl⟩ := hv
  rcases h with h | ⟨b, off, rfl, hb, h⟩
  · omega
  · exact ⟨b, off, rfl, h⟩
theorem KeyAt.one {v : World} {S : Nat → Prop} {k : K} {c0 c1 c2 c3 c4 : Value} {b : Nat} {t : TypeId} (hk : KeyAt v S k (.agg #[c0, c1, c2, c3, c4])) (hb : v.heap[b]? = some (.cells #[c0, c1, c2, c3, c4] t (0, 0))) :
    KeyAt v (fun j => S j ∨ j = b) (.mk 5 0 ⟨#[]⟩ [] [k]) (.agg #[.int .i64 5, .int .i64 0, .string ⟨#[]⟩, .slice none 0 0, .slice (some ⟨b, 0, none⟩) 1 1]) := by
  rw [KeyAt]
  refine ⟨_, _, 1, 1, rfl, SetAt.none, rfl, Nat.le_refl _, ⟨by omega, fun e => by cases e⟩, .inr ⟨b, 0, rfl, .inr rfl, fun i hi => ?_⟩⟩
  have h0 : i = 0 := by simp [K.keys] at hi; exact hi
  subst h0
  refine ⟨c0, c1, c2, c3, c4, cell_of_block hb rfl, cell_of_block hb rfl, cell_of_block hb rfl, cell_of_block hb rfl, cell_of_block hb rfl, ?_⟩
  exact hk.more fun j hj => .inl hj
theorem Ins.add {S : Nat → Prop} {w : World} {b : Nat} (h : Ins S w) (hb : b < w.heap.size) : Ins (fun j => S j ∨ j = b) w := fun j hj => by
  rcases hj with hj | rfl
  · exact h.lt hj
  · exact hb
theorem Fit.one {k : K} (h : k.Fit) : (K.mk 5 0 ⟨#[]⟩ [] [k]).Fit := .mk _ (show (⟨#[]⟩ : ByteArray).size ≤ 1048576 from by decide) fun c hc => by
  have : c = k := by simpa [K.keys] using hc
  rw [this]; exact h
end Go.Proofs.YtlkfaamjbecieaaDoor

/- LINKED LISTS of messages in memory: what a list holds, what an added node, a changed flag, a node that is skipped leave. -/
import Derived.Test.YtpahgjideppmoaaMail
namespace Go.Proofs.Ytpahgjideppmoaa
open Go.RowKit
set_option linter.unusedVariables false

def addr? (k : Option Nat) : Option Addr := k.map fun k => ⟨k, 0, none⟩
theorem addr_none : addr? none = none := rfl
theorem addr_some (k : Nat) : addr? (some k) = some ⟨k, 0, none⟩ := rfl
def nodeCells (m : M) (q : Option Nat) : Array Value := #[.int .i64 m.uid, .int .i64 m.flags, .string m.text, .pointer (addr? q)]
theorem three_cells {w : World} {b : Nat} {x y z : Value} {t : TypeId} (h : w.heap[b]? = some (.cells #[x, y, z] t (0, 0))) :
    w.cell? ⟨b, 0, none⟩ = some x ∧ w.cell? ⟨b, 1, none⟩ = some y ∧ w.cell? ⟨b, 2, none⟩ = some z ∧ w.frozen? ⟨b, 0, none⟩ = false ∧ w.frozen? ⟨b, 1, none⟩ = false ∧ w.frozen? ⟨b, 2, none⟩ = false := by
  simp [World.cell?, World.frozen?, h]
theorem four_cells {w : World} {b : Nat} {x y z u : Value} {t : TypeId} (h : w.heap[b]? = some (.cells #[x, y, z, u] t (0, 0))) :
    w.cell? ⟨b, 0, none⟩ = some x ∧ w.cell? ⟨b, 1, none⟩ = some y ∧ w.cell? ⟨b, 2, none⟩ = some z ∧ w.cell? ⟨b, 3, none⟩ = some u ∧ w.frozen? ⟨b, 1, none⟩ = false ∧ w.frozen? ⟨b, 3, none⟩ = false := by
  simp [World.cell?, World.frozen?, h]
theorem set_at {w : World} {k o : Nat} {u : Value} {cs : Array Value} {t : TypeId} {fz : Nat × Nat} (h : w.heap[k]? = some (.cells cs t fz)) : (w.setCell ⟨k, o, none⟩ u).heap[k]? = some (.cells (cs.setIfInBounds o u) t fz) := by
  have hlt := lt_of_block h
  have h' : w.heap[k] = .cells cs t fz := by simpa [Array.getElem?_eq_getElem hlt] using h
  show (w.heap.modify k _)[k]? = _
  rw [Array.getElem?_eq_getElem (by simpa using hlt), Array.getElem_modify_self, h']
  rfl
theorem ne_two {a b : Nat} (h : a < b) : ¬ (a = b) ∧ ¬ (b = a) := by omega
theorem set_off {w : World} {k j o : Nat} {u : Value} (h : k ≠ j) : (w.setCell ⟨j, o, none⟩ u).heap[k]? = w.heap[k]? := Below.heap_setCell _ _ _ _ h

theorem row_base {w : World} {base e size n m cap g : Nat} {xs : List Value} (h : w.ownsRow base e size (.slice (some ⟨g, 0, none⟩) m cap) n xs) : base ≤ g := by
  rcases h.2 with ⟨h, _⟩ | ⟨g', cap', cur, h, hb, _⟩
  · cases h
  · cases h; exact hb
/-- The nodes of a list, in blocks from B on, the later made the higher. -/
structure Nodes (w : World) (B : Nat) (ns : List Nat) (l : List M) : Prop where
  len : ns.length = l.length
  node : ∀ (i k : Nat) (m : M), ns[i]? = some k → l[i]? = some m → w.heap[k]? = some (.cells (nodeCells m ns[i + 1]?) 78 (0, 0))
  low : ∀ k ∈ ns, B ≤ k
  asc : ns.Pairwise (· < ·)
theorem Nodes.keep {w w' : World} {B : Nat} {ns : List Nat} {l : List M} (h : Nodes w B ns l) (hk : ∀ k ∈ ns, w'.heap[k]? = w.heap[k]?) : Nodes w' B ns l :=
  ⟨h.len, fun i k m hi hm => (hk k (List.mem_of_getElem? hi)).trans (h.node i k m hi hm), h.low, h.asc⟩
theorem Nodes.lt {w : World} {B : Nat} {ns : List Nat} {l : List M} (h : Nodes w B ns l) {k : Nat} (hk : k ∈ ns) : k < w.heap.size := by
  obtain ⟨i, hi, rfl⟩ := List.mem_iff_getElem.1 hk
  have hl : i < l.length := by rw [← h.len]; exact hi
  exact lt_of_block (h.node i _ _ (List.getElem?_eq_getElem hi) (List.getElem?_eq_getElem hl))
theorem Nodes.below {w w' : World} {B : Nat} {ns : List Nat} {l : List M} (h : Nodes w B ns l) (hb : Below w.heap.size w w') : Nodes w' B ns l := h.keep fun k hk => hb.block k (h.lt hk)
theorem Nodes.type {w : World} {B : Nat} {ns : List Nat} {l : List M} (h : Nodes w B ns l) {k : Nat} {cs : Array Value} {t : TypeId} {fz : Nat × Nat} (hz : w.heap[k]? = some (.cells cs t fz)) (ht : t ≠ 78) : k ∉ ns := by
  intro hk
  obtain ⟨i, hi, rfl⟩ := List.mem_iff_getElem.1 hk
  have hl : i < l.length := by rw [← h.len]; exact hi
  rw [h.node i _ _ (List.getElem?_eq_getElem hi) (List.getElem?_eq_getElem hl)] at hz
  simp at hz
  exact ht hz.2.1.symm
theorem Nodes.other {w : World} {B : Nat} {ns : List Nat} {l : List M} (h : Nodes w B ns l) {k o : Nat} {u : Value} (hk : k ∉ ns) : Nodes (w.setCell ⟨k, o, none⟩ u) B ns l :=
  h.keep fun j hj => set_off (fun e => hk (e ▸ hj))
theorem Nodes.nil (w : World) (B : Nat) : Nodes w B [] [] := ⟨rfl, by simp, by simp, List.Pairwise.nil⟩
theorem Nodes.one {w : World} {B n : Nat} {m : M} (h : w.heap[n]? = some (.cells (nodeCells m none) 78 (0, 0))) (hB : B ≤ n) : Nodes w B [n] [m] := by
  refine ⟨rfl, ?_, by simpa using hB, by simp⟩
  intro i k m' hi hm
  match i, hi, hm with
  | 0, hi, hm => simp at hi hm; subst hi; subst hm; simpa using h
/-- Places and numbers: the later made the higher. -/
theorem asc_at {ns : List Nat} (h : ns.Pairwise (· < ·)) {i j a b : Nat} (hi : ns[i]? = some a) (hj : ns[j]? = some b) (hij : i < j) : a < b := by
  obtain ⟨hi', rfl⟩ := List.getElem?_eq_some_iff.1 hi
  obtain ⟨hj', rfl⟩ := List.getElem?_eq_some_iff.1 hj
  exact List.pairwise_iff_getElem.1 h i j hi' hj' hij
theorem asc_ne {ns : List Nat} (h : ns.Pairwise (· < ·)) {i j a b : Nat} (hi : ns[i]? = some a) (hj : ns[j]? = some b) (hij : i ≠ j) : a ≠ b := by
  rcases Nat.lt_or_gt_of_ne hij with h1 | h1
  · have := asc_at h hi hj h1; omega
  · have := asc_at h hj hi h1; omega
/-- One more node, behind the last one. -/
theorem Nodes.snoc {w : World} {B n p : Nat} {ns : List Nat} {l : List M} {m : M} (h : Nodes w B ns l) (hp : ns.getLast? = some p) (hn : w.heap[n]? = some (.cells (nodeCells m none) 78 (0, 0))) (hB : B ≤ n) (hall : ∀ k ∈ ns, k < n) :
    Nodes (w.setCell ⟨p, 3, none⟩ (.pointer (some ⟨n, 0, none⟩))) B (ns ++ [n]) (l ++ [m]) := by
  have hl := h.len
  have hp' : ns[ns.length - 1]? = some p := by rw [← hp, List.getLast?_eq_getElem?]
  have hpos : 0 < ns.length := by
    rcases Nat.eq_zero_or_pos ns.length with h0 | h0
    · rw [List.eq_nil_of_length_eq_zero h0] at hp; cases hp
    · exact h0
  have hpn : p < n := hall p (List.mem_of_getElem? hp')
  refine ⟨by simp [hl], ?_, ?_, ?_⟩
  · intro i k m' hi hm
    by_cases hi1 : i < ns.length
    · rw [List.getElem?_append_left hi1] at hi
      rw [List.getElem?_append_left (by omega)] at hm
      by_cases hi2 : i = ns.length - 1
      · subst hi2
        rw [hp'] at hi
        cases hi
        have e1 : (ns ++ [n])[ns.length - 1 + 1]? = some n := by rw [show ns.length - 1 + 1 = ns.length from by omega]; simp
        rw [e1, set_at (h.node _ _ _ hp' hm)]
        rfl
      · have e1 : (ns ++ [n])[i + 1]? = ns[i + 1]? := List.getElem?_append_left (by omega)
        rw [e1, set_off (asc_ne h.asc hi hp' hi2)]
        exact h.node i k m' hi hm
    · have hi2 : i = ns.length := by
        have := (List.getElem?_eq_some_iff.1 hi).1
        simp at this; omega
      subst hi2
      simp at hi
      subst hi
      have hm2 : m' = m := by rw [hl] at hm; simp at hm; exact hm.symm
      subst hm2
      have e1 : (ns ++ [n])[ns.length + 1]? = none := by simp
      rw [e1, set_off (by omega)]
      exact hn
  · intro k hk
    simp at hk
    rcases hk with hk | rfl
    · exact h.low k hk
    · exact hB
  · rw [List.pairwise_append]
    refine ⟨h.asc, by simp, ?_⟩
    intro a ha b hb
    simp at hb
    subst hb
    exact hall a ha
/-- Other flags in one node. -/
theorem Nodes.flags {w : World} {B i k : Nat} {ns : List Nat} {l : List M} {m : M} (h : Nodes w B ns l) (hk : ns[i]? = some k) (hm : l[i]? = some m) (f : Int) :
    Nodes (w.setCell ⟨k, 1, none⟩ (.int .i64 f)) B ns (l.set i { m with flags := f }) := by
  refine ⟨by simp [h.len], ?_, h.low, h.asc⟩
  intro j k' m' hj hm'
  by_cases hij : j = i
  · subst hij
    rw [hk] at hj
    cases hj
    have hlt := (List.getElem?_eq_some_iff.1 hm).1
    rw [List.getElem?_set_self hlt] at hm'
    cases hm'
    rw [set_at (h.node _ _ _ hk hm)]
    rfl
  · rw [List.getElem?_set_ne (by omega)] at hm'
    rw [set_off (asc_ne h.asc hj hk hij)]
    exact h.node j k' m' hj hm'
/-- The node behind another one is skipped. -/
theorem Nodes.skip {w : World} {B : Nat} {ks rs : List Nat} {k n : Nat} {kl rl : List M} {m : M} (h : Nodes w B (ks ++ n :: rs) (kl ++ m :: rl)) (hlen : ks.length = kl.length) (hk : ks.getLast? = some k) :
    Nodes (w.setCell ⟨k, 3, none⟩ (.pointer (addr? rs[0]?))) B (ks ++ rs) (kl ++ rl) := by
  have hk' : ks[ks.length - 1]? = some k := by rw [← hk, List.getLast?_eq_getElem?]
  have hpos : 0 < ks.length := by
    rcases Nat.eq_zero_or_pos ks.length with h0 | h0
    · rw [List.eq_nil_of_length_eq_zero h0] at hk; cases hk
    · exact h0
  have hk2 : (ks ++ n :: rs)[ks.length - 1]? = some k := by rw [List.getElem?_append_left (by omega)]; exact hk'
  have hl := h.len
  simp at hl
  refine ⟨by simp; omega, ?_, fun x hx => h.low x (by rw [List.mem_append] at hx; rcases hx with hx | hx <;> simp [hx]), ?_⟩
  · intro i x m' hi hm
    by_cases h1 : i < ks.length
    · rw [List.getElem?_append_left h1] at hi
      rw [List.getElem?_append_left (by omega)] at hm
      have hi2 : (ks ++ n :: rs)[i]? = some x := by rw [List.getElem?_append_left h1]; exact hi
      have hm2 : (kl ++ m :: rl)[i]? = some m' := by rw [List.getElem?_append_left (by omega)]; exact hm
      have old := h.node i x m' hi2 hm2
      by_cases h2 : i = ks.length - 1
      · subst h2
        rw [hk'] at hi
        cases hi
        have e1 : (ks ++ rs)[ks.length - 1 + 1]? = rs[0]? := by rw [show ks.length - 1 + 1 = ks.length from by omega, List.getElem?_append_right (Nat.le_refl _), Nat.sub_self]
        rw [e1, set_at old]
        rfl
      · have e1 : (ks ++ rs)[i + 1]? = (ks ++ n :: rs)[i + 1]? := by rw [List.getElem?_append_left (by omega), List.getElem?_append_left (by omega)]
        rw [e1, set_off (asc_ne h.asc hi2 hk2 h2)]
        exact old
    · have hi2 : (ks ++ n :: rs)[i + 1]? = some x := by
        rw [List.getElem?_append_right (by omega)] at hi
        rw [List.getElem?_append_right (by omega), show i + 1 - ks.length = (i - ks.length) + 1 from by omega, List.getElem?_cons_succ]; exact hi
      have hm2 : (kl ++ m :: rl)[i + 1]? = some m' := by
        rw [List.getElem?_append_right (by omega)] at hm
        rw [List.getElem?_append_right (by omega), show i + 1 - kl.length = (i - kl.length) + 1 from by omega, List.getElem?_cons_succ]; exact hm
      have e1 : (ks ++ rs)[i + 1]? = (ks ++ n :: rs)[i + 1 + 1]? := by
        rw [List.getElem?_append_right (by omega), List.getElem?_append_right (by omega), show i + 1 + 1 - ks.length = (i + 1 - ks.length) + 1 from by omega, List.getElem?_cons_succ]
      rw [e1, set_off (asc_ne h.asc hi2 hk2 (by omega))]
      exact h.node (i + 1) x m' hi2 hm2
  · have := h.asc
    rw [List.pairwise_append] at this ⊢
    refine ⟨this.1, (List.pairwise_cons.1 this.2.1).2, fun a ha b hb => this.2.2 a ha b (by simp [hb])⟩
/-- The first node is skipped: nothing is written into a node. -/
theorem Nodes.tail {w : World} {B n : Nat} {rs : List Nat} {rl : List M} {m : M} (h : Nodes w B (n :: rs) (m :: rl)) : Nodes w B rs rl := by
  have hl := h.len
  simp at hl
  refine ⟨hl, fun i k m' hi hm => ?_, fun x hx => h.low x (by simp [hx]), (List.pairwise_cons.1 h.asc).2⟩
  exact h.node (i + 1) k m' (by simpa using hi) (by simpa using hm)
theorem Nodes.cells {w : World} {B i k : Nat} {ns : List Nat} {l : List M} {m : M} (h : Nodes w B ns l) (hk : ns[i]? = some k) (hm : l[i]? = some m) :
    w.cell? ⟨k, 0, none⟩ = some (.int .i64 m.uid) ∧ w.cell? ⟨k, 1, none⟩ = some (.int .i64 m.flags) ∧ w.cell? ⟨k, 2, none⟩ = some (.string m.text) ∧ w.cell? ⟨k, 3, none⟩ = some (.pointer (addr? ns[i + 1]?)) ∧ w.frozen? ⟨k, 1, none⟩ = false ∧ w.frozen? ⟨k, 3, none⟩ = false :=
  four_cells (h.node i k m hk hm)

/-- A list that can still be added to. -/
structure Lst (w : World) (B g : Nat) (ns : List Nat) (l : List M) : Prop where
  head : w.heap[g]? = some (.cells #[.pointer (addr? ns[0]?), .pointer (addr? ns.getLast?), .int .i64 (l.length : Nat)] 76 (0, 0))
  nodes : Nodes w B ns l
  low : B ≤ g
theorem Lst.below {w w' : World} {B g : Nat} {ns : List Nat} {l : List M} (h : Lst w B g ns l) (hb : Below w.heap.size w w') : Lst w' B g ns l :=
  ⟨(hb.block _ (lt_of_block h.head)).trans h.head, h.nodes.below hb, h.low⟩
theorem Lst.gnot {w : World} {B g : Nat} {ns : List Nat} {l : List M} (h : Lst w B g ns l) : g ∉ ns := h.nodes.type h.head (by decide)
/-- A node is added: to an empty list, to another one. -/
theorem Lst.add0 {w : World} {B g n : Nat} {ns : List Nat} {m : M} (h : Lst w B g ns []) (hn : w.heap[n]? = some (.cells (nodeCells m none) 78 (0, 0))) (hB : B ≤ n) :
    Lst (((w.setCell ⟨g, 0, none⟩ (.pointer (some ⟨n, 0, none⟩))).setCell ⟨g, 1, none⟩ (.pointer (some ⟨n, 0, none⟩))).setCell ⟨g, 2, none⟩ (.int .i64 1)) B g [n] [m] := by
  have hgn : n ≠ g := by intro e; rw [e, h.head] at hn; simp at hn
  refine ⟨set_at (set_at (set_at h.head)), Nodes.one ?_ hB, h.low⟩
  rw [set_off hgn, set_off hgn, set_off hgn]; exact hn
theorem Lst.add1 {w : World} {B g n p : Nat} {ns : List Nat} {l : List M} {m : M} (h : Lst w B g ns l) (hp : ns.getLast? = some p) (hn : w.heap[n]? = some (.cells (nodeCells m none) 78 (0, 0))) (hB : B ≤ n) (hall : ∀ k ∈ ns, k < n) :
    Lst (((w.setCell ⟨p, 3, none⟩ (.pointer (some ⟨n, 0, none⟩))).setCell ⟨g, 1, none⟩ (.pointer (some ⟨n, 0, none⟩))).setCell ⟨g, 2, none⟩ (.int .i64 ((l.length : Int) + 1))) B g (ns ++ [n]) (l ++ [m]) := by
  have hgn : n ≠ g := by intro e; rw [e, h.head] at hn; simp at hn
  have hpm : p ∈ ns := List.mem_of_getLast? hp
  have hpg : g ≠ p := fun e => h.gnot (e ▸ hpm)
  have hne : 0 < ns.length := List.length_pos_of_mem hpm
  have hk : g ∉ ns ++ [n] := by
    intro hm
    simp at hm
    rcases hm with hm | hm
    · exact h.gnot hm
    · exact hgn hm.symm
  refine ⟨?_, ((h.nodes.snoc hp hn hB hall).other hk).other hk, h.low⟩
  rw [set_at (set_at ((set_off hpg).trans h.head))]
  have e0 : (ns ++ [n])[0]? = ns[0]? := List.getElem?_append_left hne
  have e1 : (ns ++ [n]).getLast? = some n := List.getLast?_concat
  rw [e0, e1, List.length_append]
  rfl
end Go.Proofs.Ytpahgjideppmoaa

/- PLAIN LEAN: what a key finds in a mailbox; the laws of a search. -/
import Derived.Test.YtlkfaamjbecieaaDoorKPlain
import Derived.Test.YtlkfaamjbecieaaDoorBoxPlain
namespace Go.Proofs.YtlkfaamjbecieaaDoor
set_option linter.unusedVariables false

def spanHas (last n : Int) (s : Int × Int) : Bool :=
  decide (min (if s.1 = 0 then last else s.1) (if s.2 = 0 then last else s.2) ≤ n) && decide (n ≤ max (if s.1 = 0 then last else s.1) (if s.2 = 0 then last else s.2))
def setHas (s : List (Int × Int)) (last n : Int) : Bool := s.any (spanHas last n)
/-- A text contains another one. -/
def partAt (s p : List UInt8) : Bool := p.isPrefixOf s || match s with | [] => false | _ :: r => partAt r p
def lastUid (b : B) : Int := match b.mail.getLast? with | none => 0 | some m => m.uid
def leafFinds (b : B) (k : K) (i : Nat) (m : M) : Bool :=
  if k.kind = 1 then decide (m.flags.toNat / k.flag.toNat % 2 = 1)
  else if k.kind = 2 then partAt m.text.data.toList k.text.data.toList
  else if k.kind = 3 then setHas k.set b.mail.length ((i : Int) + 1)
  else if k.kind = 4 then setHas k.set (lastUid b) m.uid
  else true
def K.finds (b : B) (i : Nat) (m : M) (k : K) : Bool :=
  if k.kind = 5 then !((k.keys.attach.map fun c => K.finds b i m c.1).getD 0 true)
  else if k.kind = 6 then (k.keys.attach.map fun c => K.finds b i m c.1).getD 0 true && (k.keys.attach.map fun c => K.finds b i m c.1).getD 1 true
  else if k.kind = 7 then (k.keys.attach.map fun c => K.finds b i m c.1).getD 0 true || (k.keys.attach.map fun c => K.finds b i m c.1).getD 1 true
  else leafFinds b k i m
termination_by sizeOf k
decreasing_by all_goals exact K.lt c.2
theorem attach_map {α β : Type} (l : List α) (f : α → β) : (l.attach.map fun c => f c.1) = l.map f := by
  rw [List.map_attach_eq_pmap] <;> simp
theorem K.finds_eq (b : B) (i : Nat) (m : M) (k : K) : k.finds b i m =
    if k.kind = 5 then !((k.keys.map (K.finds b i m)).getD 0 true)
    else if k.kind = 6 then (k.keys.map (K.finds b i m)).getD 0 true && (k.keys.map (K.finds b i m)).getD 1 true
    else if k.kind = 7 then (k.keys.map (K.finds b i m)).getD 0 true || (k.keys.map (K.finds b i m)).getD 1 true
    else leafFinds b k i m := by
  rw [K.finds]
  simp only [attach_map]
/-- The place of an index, if it is found. -/
def found (b : B) (k : K) (i : Nat) : Bool := match b.mail[i]? with | none => false | some m => k.finds b i m
def placesTo (b : B) (k : K) (n : Nat) : List Int := ((List.range n).filter (found b k)).map fun i : Nat => (i : Int) + 1
def searchOf (b : B) (k : K) : List Int := if bok b && keyOk k then placesTo b k b.mail.length else []
theorem placesTo_succ (b : B) (k : K) (n : Nat) : placesTo b k (n + 1) = placesTo b k n ++ if found b k n then [(n : Int) + 1] else [] := by
  unfold placesTo
  rw [List.range_succ, List.filter_append, List.map_append]
  by_cases h : found b k n = true
  · simp [h]
  · simp [h]
theorem mem_places (b : B) (k : K) (n : Nat) (p : Int) : p ∈ placesTo b k n ↔ ∃ i, i < n ∧ found b k i = true ∧ p = (i : Int) + 1 := by
  unfold placesTo
  simp only [List.mem_map, List.mem_filter, List.mem_range]
  constructor
  · rintro ⟨i, ⟨h1, h2⟩, rfl⟩; exact ⟨i, h1, h2, rfl⟩
  · rintro ⟨i, h1, h2, rfl⟩; exact ⟨i, ⟨h1, h2⟩, rfl⟩
theorem places_at (b : B) (k : K) {i : Nat} (h : i < b.mail.length) : decide ((i : Int) + 1 ∈ placesTo b k b.mail.length) = found b k i := by
  rw [Bool.eq_iff_iff, decide_eq_true_eq, mem_places]
  constructor
  · rintro ⟨j, h1, h2, h3⟩
    have : j = i := by omega
    rw [← this]; exact h2
  · intro h2; exact ⟨i, h, h2, rfl⟩
theorem places_len (b : B) (k : K) (n : Nat) : (placesTo b k n).length ≤ n := by
  unfold placesTo
  rw [List.length_map]
  have := List.length_filter_le (found b k) (List.range n)
  simpa using this
theorem search_len (b : B) (k : K) : (searchOf b k).length ≤ b.mail.length := by
  unfold searchOf
  split
  · exact places_len _ _ _
  · simp
/-- Places are in order. -/
theorem places_order (b : B) (k : K) : ∀ n, (placesTo b k n).Pairwise (· < ·) ∧ ∀ p ∈ placesTo b k n, 1 ≤ p ∧ p ≤ n
  | 0 => by simp [placesTo]
  | n + 1 => by
    obtain ⟨h1, h2⟩ := places_order b k n
    rw [placesTo_succ]
    by_cases h : found b k n = true
    · rw [if_pos h]
      refine ⟨List.pairwise_append.2 ⟨h1, by simp, fun a ha c hc => ?_⟩, fun p hp => ?_⟩
      · have := h2 a ha
        simp at hc; omega
      · rcases List.mem_append.1 hp with hp | hp
        · have := h2 p hp; omega
        · simp at hp; omega
    · rw [if_neg h, List.append_nil]
      exact ⟨h1, fun p hp => by have := h2 p hp; omega⟩
/-- Two keys that find alike. -/
theorem places_same {b : B} {k k' : K} (h : ∀ i m, b.mail[i]? = some m → k.finds b i m = k'.finds b i m) (n : Nat) : placesTo b k n = placesTo b k' n := by
  unfold placesTo
  congr 2
  funext i
  unfold found
  rcases hm : b.mail[i]? with _ | m
  · rfl
  · exact h i m hm
/-! The joined keys. -/
def knot (k : K) : K := .mk 5 0 ⟨#[]⟩ [] [k]
def kjoin (kind : Int) (a c : K) : K := .mk kind 0 ⟨#[]⟩ [] [a, c]
theorem finds_not (b : B) (i : Nat) (m : M) (k : K) : (knot k).finds b i m = !k.finds b i m := by
  rw [K.finds_eq]; simp [knot, K.kind, K.keys]
theorem finds_and (b : B) (i : Nat) (m : M) (a c : K) : (kjoin 6 a c).finds b i m = (a.finds b i m && c.finds b i m) := by
  rw [K.finds_eq]; simp [kjoin, K.kind, K.keys]
theorem finds_or (b : B) (i : Nat) (m : M) (a c : K) : (kjoin 7 a c).finds b i m = (a.finds b i m || c.finds b i m) := by
  rw [K.finds_eq]; simp [kjoin, K.kind, K.keys]
theorem nodes_not (k : K) : (knot k).nodes = 1 + k.nodes := by
  rw [K.nodes_eq (knot k)]; simp [knot, K.keys]
theorem nodes_join (n : Int) (a c : K) : (kjoin n a c).nodes = 1 + (a.nodes + c.nodes) := by
  rw [K.nodes_eq (kjoin n a c)]; simp [kjoin, K.keys]
theorem ok_not (k : K) : (knot k).allOk = k.allOk := by
  rw [K.allOk_eq (knot k)]; simp [knot, K.keys, nodeOk, nodeB, K.kind, K.flag, K.text, K.set]
  intros; rfl
theorem ok_join {n : Int} (h : n = 6 ∨ n = 7) (a c : K) : (kjoin n a c).allOk = (a.allOk && c.allOk) := by
  rw [K.allOk_eq (kjoin n a c)]
  rcases h with rfl | rfl <;> (simp [kjoin, K.keys, nodeOk, nodeB, K.kind, K.flag, K.text, K.set]; intros; rfl)
end Go.Proofs.YtlkfaamjbecieaaDoor

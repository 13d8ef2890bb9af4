/- THE PROGRAM's NODES of a key: an interface value that holds them. -/
import Derived.Test.YtgcdopmidmelfaaDoorKCur
import Derived.Test.YtgcdopmidmelfaaDoorKSpec
import Derived.Test.YtgcdopmidmelfaaDoorNames
namespace Go.Proofs.YtgcdopmidmelfaaDoor
open Go.RowKit
set_option linter.unusedVariables false

/-- A node as a value. -/
def NodeAt (w : World) (S : Nat → Prop) (k : K) (v : Value) : Prop :=
  if k.kind = 0 then v = .iface 74 (.agg #[])
  else if k.kind = 1 then v = .iface 59 (.agg #[.int .i64 k.flag])
  else if k.kind = 2 then v = .iface 62 (.agg #[.string k.text])
  else if k.kind = 3 then ∃ sv, v = .iface 64 (.agg #[sv]) ∧ SetAt w S sv k.set
  else if k.kind = 4 then ∃ sv, v = .iface 65 (.agg #[sv]) ∧ SetAt w S sv k.set
  else if k.kind = 5 then ∃ (h : 0 < k.keys.length) (x : Value), v = .iface 67 (.agg #[x]) ∧ NodeAt w S (k.keys[0]'h) x
  else ∃ (h : 1 < k.keys.length) (x y : Value), v = .iface 69 (.agg #[.bool (k.kind == 6), x, y]) ∧ NodeAt w S (k.keys[0]'(by omega)) x ∧ NodeAt w S (k.keys[1]'h) y
termination_by SizeOf.sizeOf k
decreasing_by all_goals exact K.lt (List.getElem_mem _)
theorem NodeAt.kept {w w' : World} {S S' : Nat → Prop} (hS : ∀ j, S j → S' j) (hk : ∀ j, S j → w'.heap[j]? = w.heap[j]?) (k : K) : ∀ v, NodeAt w S k v → NodeAt w' S' k v := by
  induction k using K.ind with
  | h k ih =>
    intro v h
    rw [NodeAt] at h ⊢
    split
    · next e => rw [if_pos e] at h; exact h
    · next e =>
      rw [if_neg e] at h
      split
      · next e => rw [if_pos e] at h; exact h
      · next e =>
        rw [if_neg e] at h
        split
        · next e => rw [if_pos e] at h; exact h
        · next e =>
          rw [if_neg e] at h
          split
          · next e => rw [if_pos e] at h; obtain ⟨sv, e1, e2⟩ := h; exact ⟨sv, e1, e2.kept hS hk⟩
          · next e =>
            rw [if_neg e] at h
            split
            · next e => rw [if_pos e] at h; obtain ⟨sv, e1, e2⟩ := h; exact ⟨sv, e1, e2.kept hS hk⟩
            · next e =>
              rw [if_neg e] at h
              split
              · next e => rw [if_pos e] at h; obtain ⟨h0, x, e1, e2⟩ := h; exact ⟨h0, x, e1, ih _ (List.getElem_mem _) _ e2⟩
              · next e => rw [if_neg e] at h; obtain ⟨h0, x, y, e1, e2, e3⟩ := h; exact ⟨h0, x, y, e1, ih _ (List.getElem_mem _) _ e2, ih _ (List.getElem_mem _) _ e3⟩
theorem NodeAt.below {w w' : World} {S : Nat → Prop} {k : K} {v : Value} (h : NodeAt w S k v) (hN : Ins S w) (hb : Below w.heap.size w w') : NodeAt w' S k v :=
  NodeAt.kept (fun _ h => h) (fun j hj => hb.block j (hN j hj)) k v h
theorem NodeAt.grown {w w' : World} {S : Nat → Prop} {r : Nat} {k : K} {v : Value} (h : NodeAt w S k v) (hN : Ins S w) (hg : w.grownBy w' (some r)) (hr : ¬ S r) : NodeAt w' S k v :=
  NodeAt.kept (fun _ h => h) (fun j hj => hg.block j (hN j hj) (by simp; intro e; subst e; exact hr hj)) k v h
theorem NodeAt.all {w : World} {S : Nat → Prop} {k : K} (h : k.kind = 0) : NodeAt w S k (.iface 74 (.agg #[])) := by rw [NodeAt, if_pos h]
theorem NodeAt.has {w : World} {S : Nat → Prop} {k : K} (h : k.kind = 1) : NodeAt w S k (.iface 59 (.agg #[.int .i64 k.flag])) := by rw [NodeAt, if_neg (by omega), if_pos h]
theorem NodeAt.txt {w : World} {S : Nat → Prop} {k : K} (h : k.kind = 2) : NodeAt w S k (.iface 62 (.agg #[.string k.text])) := by rw [NodeAt, if_neg (by omega), if_neg (by omega), if_pos h]
theorem NodeAt.place {w : World} {S : Nat → Prop} {k : K} {sv : Value} (h : k.kind = 3) (hs : SetAt w S sv k.set) : NodeAt w S k (.iface 64 (.agg #[sv])) := by
  rw [NodeAt, if_neg (by omega), if_neg (by omega), if_neg (by omega), if_pos h]; exact ⟨sv, rfl, hs⟩
theorem NodeAt.uid {w : World} {S : Nat → Prop} {k : K} {sv : Value} (h : k.kind = 4) (hs : SetAt w S sv k.set) : NodeAt w S k (.iface 65 (.agg #[sv])) := by
  rw [NodeAt, if_neg (by omega), if_neg (by omega), if_neg (by omega), if_neg (by omega), if_pos h]; exact ⟨sv, rfl, hs⟩
theorem NodeAt.not {w : World} {S : Nat → Prop} {k : K} {x : Value} (h : k.kind = 5) (h0 : 0 < k.keys.length) (hx : NodeAt w S k.keys[0] x) : NodeAt w S k (.iface 67 (.agg #[x])) := by
  rw [NodeAt, if_neg (by omega), if_neg (by omega), if_neg (by omega), if_neg (by omega), if_neg (by omega), if_pos h]; exact ⟨h0, x, rfl, hx⟩
theorem NodeAt.pair {w : World} {S : Nat → Prop} {k : K} {x y : Value} {d : Bool} (h : 6 ≤ k.kind) (hd : (k.kind == 6) = d) (h1 : 1 < k.keys.length) (hx : NodeAt w S k.keys[0] x) (hy : NodeAt w S k.keys[1] y) : NodeAt w S k (.iface 69 (.agg #[.bool d, x, y])) := by
  rw [NodeAt, if_neg (by omega), if_neg (by omega), if_neg (by omega), if_neg (by omega), if_neg (by omega), if_neg (by omega), ← hd]; exact ⟨h1, x, y, rfl, hx, hy⟩
theorem NodeAt.iface {w : World} {S : Nat → Prop} {k : K} {v : Value} (h : NodeAt w S k v) : ∃ t x, v = .iface t x := by
  rw [NodeAt] at h
  split at h
  · exact ⟨_, _, h⟩
  · split at h
    · exact ⟨_, _, h⟩
    · split at h
      · exact ⟨_, _, h⟩
      · split at h
        · obtain ⟨_, h, _⟩ := h; exact ⟨_, _, h⟩
        · split at h
          · obtain ⟨_, h, _⟩ := h; exact ⟨_, _, h⟩
          · split at h
            · obtain ⟨_, _, h, _⟩ := h; exact ⟨_, _, h⟩
            · obtain ⟨_, _, _, h, _⟩ := h; exact ⟨_, _, h⟩
theorem Names.grown {w w' : World} {r : Nat} (h : Names w) (hg : w.grownBy w' (some r)) {v : Value} {t : TypeId} (hr : w.heap[r]? = some (.cells #[v] t (0, 0))) : Names w' := by
  obtain ⟨t', fz, h⟩ := h
  refine ⟨t', fz, (hg.block _ (lt_of_block h) ?_).trans h⟩
  simp
  intro e
  rw [e, hr] at h
  simp [namesCells] at h
/-- A node that was built with room for so many. -/
def Built (w : World) (S : Nat → Prop) (rb : Nat) (room : Int) (k : K) (e : Ending) (w' : World) : Prop :=
  ∃ nd, e = .returned (.tuple #[nd, .bool (okIn k room)]) ∧ w.grownBy w' (some rb) ∧ (okIn k room = true → NodeAt w' S k nd ∧ w'.heap[rb]? = some (.cells #[.int .i64 (room - (k.nodes : Int))] 3 (0, 0)))
/-- What lies where while a node is built. -/
structure KB (w : World) (rb : Nat) (room : Int) (kc rc : Array Value) (v : World) : Prop where
  key : v.heap[w.heap.size]? = some (.cells kc 31 (0, 0))
  rest : v.heap[w.heap.size + 1]? = some (.cells rc 31 (0, 0))
  room : v.heap[rb]? = some (.cells #[.int .i64 room] 3 (0, 0))
  gr : w.grownBy v (some rb)
  lt : rb < w.heap.size
theorem KB.below {w v v' : World} {rb : Nat} {room : Int} {kc rc : Array Value} (h : KB w rb room kc rc v) (hb : Below v.heap.size v v') : KB w rb room kc rc v' :=
  have h1 := lt_of_block h.key; have h2 := lt_of_block h.rest; have h3 := lt_of_block h.room
  ⟨(hb.block _ h1).trans h.key, (hb.block _ h2).trans h.rest, (hb.block _ h3).trans h.room, grown_trans h.gr (grown_of_below hb), h.lt⟩
theorem KB.store {w v : World} {rb : Nat} {room : Int} {kc rc : Array Value} (h : KB w rb room kc rc v) (j : Nat) (u : Value) : KB w rb room kc (rc.setIfInBounds j u) (v.setCell ⟨w.heap.size + 1, j, none⟩ u) := by
  have h2 := lt_of_block h.rest
  have hlt := h.lt
  have h' : v.heap[w.heap.size + 1] = .cells rc 31 (0, 0) := by simpa [Array.getElem?_eq_getElem h2] using h.rest
  refine ⟨(Below.heap_setCell _ _ _ _ (by show _ ≠ w.heap.size + 1; omega)).trans h.key, ?_, (Below.heap_setCell _ _ _ _ (by show _ ≠ w.heap.size + 1; omega)).trans h.room,
    ⟨h.gr.os, h.gr.tape, h.gr.output, by simpa [World.setCell] using h.gr.size, fun k hk hr => (Below.heap_setCell _ _ _ _ (by show k ≠ w.heap.size + 1; omega)).trans (h.gr.block k hk hr)⟩, hlt⟩
  show (v.heap.modify (w.heap.size + 1) _)[w.heap.size + 1]? = _
  rw [Array.getElem?_eq_getElem (by simpa using h2), Array.getElem_modify_self, h']
  rfl
theorem room_set {w : World} {b : Nat} {x u : Value} {t : TypeId} (h : w.heap[b]? = some (.cells #[x] t (0, 0))) : (w.setCell ⟨b, 0, none⟩ u).heap[b]? = some (.cells #[u] t (0, 0)) := by
  have hlt := lt_of_block h
  have h' : w.heap[b] = .cells #[x] t (0, 0) := by simpa [Array.getElem?_eq_getElem hlt] using h
  show (w.heap.modify b _)[b]? = _
  rw [Array.getElem?_eq_getElem (by simpa using hlt), Array.getElem_modify_self, h']
  rfl
/-- A key without a flag, a text, a set. -/
def plainB (flag : Int) (t : ByteArray) (sn : Nat) : Bool := (flag == 0) && decide (t.size = 0) && decide (sn = 0)
theorem keyPlain_any (kind flag : Int) (t : ByteArray) (sa : Option Addr) (sn sc : Nat) (kv : Value) (w : World) :
    Calls Tryd.prog 37 #[.agg #[.int .i64 kind, .int .i64 flag, .string t, .slice sa sn sc, kv]] w fun e w' => e = .returned (.bool (plainB flag t sn)) ∧ Below w.heap.size w w' := by
  have hr : plainB flag t sn = ((flag == 0) && decide (t.toList = []) && decide (sn = 0)) := by unfold plainB; rw [decide_eq_decide.2 (size_nil t)]
  have HR := Lib.hid hr
  clear hr
  go_enter Tryd.func37, Tryd.ntmps37
  go_wp2_with fail
  all_goals go_ret
  all_goals refine ⟨ret_bool ?_, (Below.refl _ _).alloc (Nat.le_refl _) _⟩
  all_goals rw [HR.out]
  all_goals clear HR
  all_goals simp_all [cast0]
end Go.Proofs.YtgcdopmidmelfaaDoor

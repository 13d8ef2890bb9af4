/- PLAIN LEAN: keys of a search: trees of nodes; when they are valid; how many nodes they have. -/
import Derived.Test.YtgcdopmidmelfaaDoorPlain
namespace Go.Proofs.YtgcdopmidmelfaaDoor
set_option linter.unusedVariables false

inductive K where
  | mk (kind flag : Int) (text : ByteArray) (set : List (Int × Int)) (keys : List K)
def K.kind : K → Int | .mk k _ _ _ _ => k
def K.flag : K → Int | .mk _ f _ _ _ => f
def K.text : K → ByteArray | .mk _ _ t _ _ => t
def K.set : K → List (Int × Int) | .mk _ _ _ s _ => s
def K.keys : K → List K | .mk _ _ _ _ ks => ks
theorem K.eta (k : K) : K.mk k.kind k.flag k.text k.set k.keys = k := by cases k; rfl
theorem K.lt {k c : K} (h : c ∈ k.keys) : sizeOf c < sizeOf k := by
  cases k with
  | mk a b t s ks =>
    have := List.sizeOf_lt_of_mem (show c ∈ ks from h)
    simp only [K.mk.sizeOf_spec]
    omega
/-- Induction over the tree. -/
theorem K.ind {P : K → Prop} (h : ∀ k : K, (∀ c ∈ k.keys, P c) → P k) (k : K) : P k :=
  h k fun c hc => K.ind h c
termination_by sizeOf k
decreasing_by exact K.lt hc

def K.nodes (k : K) : Nat := 1 + (k.keys.attach.map fun c => K.nodes c.1).sum
termination_by sizeOf k
decreasing_by exact K.lt c.2
theorem K.nodes_eq (k : K) : k.nodes = 1 + (k.keys.map K.nodes).sum := by
  rw [K.nodes]
  congr 2
  rw [List.map_attach_eq_pmap] <;> simp

def flag1 (n : Int) : Bool := n == 1 || n == 2 || n == 4 || n == 8 || n == 16
def nameOk (t : ByteArray) : Bool := decide (1 ≤ t.size) && decide (t.size ≤ 8) && t.data.toList.all fun c => (97 ≤ c.toNat && c.toNat ≤ 122) || (48 ≤ c.toNat && c.toNat ≤ 57)
def spanOk (s : Int × Int) : Bool := decide (0 ≤ s.1) && decide (s.1 ≤ 99) && decide (0 ≤ s.2) && decide (s.2 ≤ 99)
def setOk (s : List (Int × Int)) : Bool := decide (1 ≤ s.length) && decide (s.length ≤ 6) && s.all spanOk
/-- The fields of one node. -/
def nodeB (kind flag : Int) (text : ByteArray) (set : List (Int × Int)) (n : Nat) : Bool :=
  (kind == 1 || flag == 0) && (kind == 2 || decide (text.size = 0)) && (kind == 3 || kind == 4 || decide (set.length = 0)) &&
  (if kind = 0 then decide (n = 0)
   else if kind = 1 then flag1 flag && decide (n = 0)
   else if kind = 2 then nameOk text && decide (n = 0)
   else if kind = 3 ∨ kind = 4 then setOk set && decide (n = 0)
   else if kind = 5 then decide (n = 1)
   else if kind = 6 ∨ kind = 7 then decide (n = 2) else false)
def nodeOk (k : K) : Bool := nodeB k.kind k.flag k.text k.set k.keys.length
def K.allOk (k : K) : Bool := (k.keys.attach.all fun c => K.allOk c.1) && nodeOk k
termination_by sizeOf k
decreasing_by exact K.lt c.2
theorem K.allOk_eq (k : K) : k.allOk = (k.keys.all K.allOk && nodeOk k) := by
  rw [K.allOk]
  congr 1
  rw [Bool.eq_iff_iff]
  simp only [List.all_eq_true]
  exact ⟨fun h c hc => h ⟨c, hc⟩ (List.mem_attach _ _), fun h c _ => h c.1 c.2⟩
def keyOk (k : K) : Bool := k.allOk && decide (k.nodes ≤ 9)
/-- As the program builds it: with room for so many nodes. -/
def okIn (k : K) (room : Int) : Bool := k.allOk && decide ((k.nodes : Int) ≤ room)
theorem K.nodes_pos (k : K) : 1 ≤ k.nodes := by rw [K.nodes_eq]; omega
theorem keyOk_in (k : K) : okIn k 9 = keyOk k := by
  unfold okIn keyOk
  congr 1
  rw [Bool.eq_iff_iff]; simp; omega
theorem okIn_room {k : K} {room : Int} (h : room ≤ 0) : okIn k room = false := by
  have := k.nodes_pos
  unfold okIn
  rw [Bool.and_eq_false_iff]; right; simp; omega
/-- A leaf. -/
theorem okIn_leaf {k : K} {room : Int} (hr : 1 ≤ room) (hk : k.kind < 5) : okIn k room = nodeOk k := by
  unfold okIn
  rcases hn : nodeOk k with _ | _
  · rw [K.allOk_eq, hn]; simp
  · have h0 : k.keys = [] := by
      unfold nodeOk nodeB at hn
      rw [Bool.and_eq_true] at hn
      have h2 := hn.2
      have : k.kind = 0 ∨ k.kind = 1 ∨ k.kind = 2 ∨ (k.kind = 3 ∨ k.kind = 4) ∨ (k.kind < 0 ∨ 4 < k.kind) := by omega
      apply List.eq_nil_of_length_eq_zero
      split at h2
      · simpa using h2
      · split at h2
        · simp at h2; exact List.length_eq_zero_iff.2 h2.2
        · split at h2
          · simp at h2; exact List.length_eq_zero_iff.2 h2.2
          · split at h2
            · simp at h2; exact List.length_eq_zero_iff.2 h2.2
            · split at h2
              · omega
              · split at h2
                · omega
                · cases h2
    rw [K.allOk_eq, K.nodes_eq, h0, hn]
    simp; omega
theorem okIn_one {k c : K} {room : Int} (hk : k.kind = 5) (hc : k.keys = [c]) (hp : k.flag = 0 ∧ k.text.size = 0 ∧ k.set.length = 0) : okIn k room = okIn c (room - 1) := by
  have hn : nodeOk k = true := by simp [nodeOk, nodeB, hk, hc, hp.1, hp.2.1, hp.2.2]
  unfold okIn
  rw [K.allOk_eq, K.nodes_eq, hc, hn]
  rw [Bool.eq_iff_iff]
  simp; omega
theorem okIn_two {k c d : K} {room : Int} (hk : k.kind = 6 ∨ k.kind = 7) (hc : k.keys = [c, d]) (hp : k.flag = 0 ∧ k.text.size = 0 ∧ k.set.length = 0) :
    okIn k room = (okIn c (room - 1) && okIn d (room - 1 - c.nodes)) := by
  have hn : nodeOk k = true := by
    rcases hk with hk | hk <;> simp [nodeOk, nodeB, hk, hc, hp.1, hp.2.1, hp.2.2]
  have hd := d.nodes_pos
  unfold okIn
  rw [K.allOk_eq, K.nodes_eq, hc, hn]
  rw [Bool.eq_iff_iff]
  simp only [List.all_cons, List.all_nil, Bool.and_true, Bool.and_eq_true, decide_eq_true_eq, List.map_cons, List.map_nil, List.sum_cons, List.sum_nil]
  constructor
  · rintro ⟨⟨h1, h2⟩, h3⟩; exact ⟨⟨h1, by omega⟩, h2, by omega⟩
  · rintro ⟨⟨h1, h3⟩, h2, h4⟩; exact ⟨⟨h1, h2⟩, by omega⟩
/-- A branch whose fields are not as they ought to be. -/
theorem okIn_bad {k : K} {room : Int} (hk : 5 ≤ k.kind) (h : 7 < k.kind ∨ (k.kind = 5 ∧ k.keys.length ≠ 1) ∨ (k.kind ≠ 5 ∧ k.keys.length ≠ 2) ∨ k.flag ≠ 0 ∨ k.text.size ≠ 0 ∨ k.set.length ≠ 0) : okIn k room = false := by
  have hn : nodeOk k = false := by
    unfold nodeOk nodeB
    rw [if_neg (by omega), if_neg (by omega), if_neg (by omega), if_neg (by omega)]
    by_cases h5 : k.kind = 5
    · rw [if_pos h5]
      rcases h with h | h | h | h | h | h
      · omega
      · simp [h.2]
      · omega
      · simp [h5, h]
      · simp [h5, h]
      · simp [h5, h]
    · rw [if_neg h5]
      by_cases h6 : k.kind = 6 ∨ k.kind = 7
      · rw [if_pos h6]
        rcases h with h | h | h | h | h | h
        · omega
        · omega
        · simp [h.2]
        · rcases h6 with h6 | h6 <;> simp [h6, h]
        · rcases h6 with h6 | h6 <;> simp [h6, h]
        · rcases h6 with h6 | h6 <;> simp [h6, h]
      · rw [if_neg h6]; simp
  unfold okIn
  rw [K.allOk_eq, hn]
  simp
/-! The laws. -/
theorem keyOk_not (k : K) (h : keyOk k = true) : keyOk (.mk 5 0 ⟨#[]⟩ [] [k]) = decide (k.nodes < 9) := by
  unfold keyOk at h ⊢
  simp only [Bool.and_eq_true, decide_eq_true_eq] at h
  rw [K.allOk_eq, K.nodes_eq (.mk 5 0 ⟨#[]⟩ [] [k])]
  simp only [K.keys, h.1, nodeOk, nodeB, K.kind, K.flag, K.text, K.set, List.all_cons, List.all_nil, List.map_cons, List.map_nil, List.sum_cons, List.sum_nil]
  simp
  first | omega | exact decide_eq_decide.2 (by omega)
theorem le_sum : ∀ (l : List Nat) (x : Nat), x ∈ l → x ≤ l.sum
  | [], x, h => by cases h
  | a :: l, x, h => by
    rcases List.mem_cons.1 h with rfl | h
    · simp
    · have := le_sum l x h; simp; omega
theorem keyOk_part {k c : K} (h : keyOk k = true) (hc : c ∈ k.keys) : keyOk c = true := by
  unfold keyOk at h ⊢
  simp only [Bool.and_eq_true, decide_eq_true_eq] at h ⊢
  have h1 := h.1
  rw [K.allOk_eq, Bool.and_eq_true] at h1
  refine ⟨List.all_eq_true.1 h1.1 c hc, ?_⟩
  have h2 := h.2
  rw [K.nodes_eq] at h2
  have h3 : c.nodes ≤ (k.keys.map K.nodes).sum := le_sum _ _ (List.mem_map_of_mem hc)
  omega
theorem keyOk_with {k k' : K} (h : keyOk k = true) (hk : k'.keys = k.keys) : keyOk k' = nodeOk k' := by
  unfold keyOk at h ⊢
  simp only [Bool.and_eq_true, decide_eq_true_eq] at h
  have h1 := h.1
  have h2 := h.2
  rw [K.allOk_eq, Bool.and_eq_true] at h1
  rw [K.nodes_eq] at h2
  rw [K.allOk_eq, K.nodes_eq, hk, h1.1]
  simp [h2]
theorem keyOk_node {k : K} (h : keyOk k = true) : nodeOk k = true := by rw [← keyOk_with h rfl]; exact h
theorem node_cases {k : K} (h : nodeOk k = true) : 0 ≤ k.kind ∧ k.kind ≤ 7 ∧ (k.kind ≤ 4 → k.keys.length = 0) ∧ (k.kind = 5 → k.keys.length = 1) ∧ (6 ≤ k.kind → k.keys.length = 2) := by
  unfold nodeOk nodeB at h
  rw [Bool.and_eq_true] at h
  have h2 := h.2
  split at h2
  · simp at h2; simp [*]
  · split at h2
    · simp at h2; simp [*]
    · split at h2
      · simp at h2; simp [*]
      · split at h2
        · simp at h2; refine ⟨by omega, by omega, fun _ => by simp [h2], by omega, by omega⟩
        · split at h2
          · simp at h2; refine ⟨by omega, by omega, by omega, fun _ => h2, by omega⟩
          · split at h2
            · simp at h2; refine ⟨by omega, by omega, by omega, by omega, fun _ => h2⟩
            · cases h2
theorem node_flag {a f : Int} {t : ByteArray} {s : List (Int × Int)} {n : Nat} (h : nodeB a f t s n = true) : nodeB a 1 t s n = decide (a = 1) := by
  by_cases h1 : a = 1
  · subst h1
    simp [nodeB, flag1] at h ⊢
    simp [h]
  · simp [nodeB, h1]
theorem node_text {a f : Int} {t : ByteArray} {s : List (Int × Int)} {n : Nat} (h : nodeB a f t s n = true) : nodeB a f ⟨#[120]⟩ s n = decide (a = 2) := by
  have hx : nameOk ⟨#[120]⟩ = true := by decide +kernel
  have hy : (⟨#[120]⟩ : ByteArray).size = 1 := rfl
  by_cases h1 : a = 2
  · subst h1
    simp [nodeB, hx] at h ⊢
    simp [h]
  · simp [nodeB, h1, hy]
theorem keyOk_flag {k : K} (h : keyOk k = true) : keyOk (.mk k.kind 1 k.text k.set k.keys) = decide (k.kind = 1) := by
  rw [keyOk_with (k' := .mk k.kind 1 k.text k.set k.keys) h rfl]
  have hn : nodeB k.kind k.flag k.text k.set k.keys.length = true := keyOk_node h
  exact node_flag hn
theorem keyOk_text {k : K} (h : keyOk k = true) : keyOk (.mk k.kind k.flag ⟨#[120]⟩ k.set k.keys) = decide (k.kind = 2) := by
  rw [keyOk_with (k' := .mk k.kind k.flag ⟨#[120]⟩ k.set k.keys) h rfl]
  have hn : nodeB k.kind k.flag k.text k.set k.keys.length = true := keyOk_node h
  exact node_text hn
theorem keyOk_more {k c : K} (h : keyOk k = true) : keyOk (.mk k.kind k.flag k.text k.set (k.keys ++ [c])) = false := by
  obtain ⟨h0, h7, h4, h5, h6⟩ := node_cases (keyOk_node h)
  rcases hz : keyOk (.mk k.kind k.flag k.text k.set (k.keys ++ [c])) with _ | _
  · rfl
  · obtain ⟨_, _, g4, g5, g6⟩ := node_cases (keyOk_node hz)
    change k.kind ≤ 4 → (k.keys ++ [c]).length = 0 at g4
    change k.kind = 5 → (k.keys ++ [c]).length = 1 at g5
    change 6 ≤ k.kind → (k.keys ++ [c]).length = 2 at g6
    rw [List.length_append, List.length_singleton] at g4 g5 g6
    have : k.kind ≤ 4 ∨ k.kind = 5 ∨ 6 ≤ k.kind := by omega
    rcases this with h | h | h
    · have := g4 h; omega
    · have := g5 h; have := h5 h; omega
    · have := g6 h; have := h6 h; omega
end Go.Proofs.YtgcdopmidmelfaaDoor

/- PLAIN LEAN: the text of a key. -/
import Derived.Test.YtgcdopmidmelfaaDoorKNumP
namespace Go.Proofs.YtgcdopmidmelfaaDoor
set_option linter.unusedVariables false

def headK (k : K) : List UInt8 :=
  if k.kind = 0 then [97, 108, 108] else if k.kind = 1 then fwordL k.flag else if k.kind = 2 then [116, 101, 120, 116, 32] ++ k.text.data.toList
  else if k.kind = 3 then [97, 116, 32] ++ setT k.set else if k.kind = 4 then [117, 105, 100, 32] ++ setT k.set else if k.kind = 5 then [110, 111, 116] else if k.kind = 6 then [97, 110, 100] else [111, 114]
def fmtK (k : K) : List UInt8 := headK k ++ (k.keys.attach.map fun c => 32 :: fmtK c.1).flatten
termination_by SizeOf.sizeOf k
decreasing_by exact K.lt c.2
theorem fmtK_eq (k : K) : fmtK k = headK k ++ (k.keys.map fun c => 32 :: fmtK c).flatten := by
  rw [fmtK]
  congr 2
  rw [List.map_attach_eq_pmap] <;> simp
theorem fmtK_leaf {k : K} (h : k.keys.length = 0) : fmtK k = headK k := by
  rw [fmtK_eq, List.eq_nil_of_length_eq_zero h]; simp
theorem fwordL_len (f : Int) : (fwordL f).length ≤ 8 := by
  unfold fwordL
  repeat' split
  all_goals simp
theorem node_set {k : K} (h : nodeOk k = true) (hk : k.kind = 3 ∨ k.kind = 4) : setOk k.set = true := by
  unfold nodeOk nodeB at h
  rw [Bool.and_eq_true] at h
  have h2 := h.2
  rw [if_neg (by omega), if_neg (by omega), if_neg (by omega), if_pos hk, Bool.and_eq_true] at h2
  exact h2.1
theorem node_name {k : K} (h : nodeOk k = true) (hk : k.kind = 2) : k.text.size ≤ 8 := by
  unfold nodeOk nodeB at h
  rw [Bool.and_eq_true] at h
  have h2 := h.2
  rw [if_neg (by omega), if_neg (by omega), if_pos hk, Bool.and_eq_true] at h2
  have h3 := h2.1
  simp [nameOk] at h3
  omega
theorem setT_len {l : List (Int × Int)} (h : setOk l = true) : (setT l).length ≤ 36 := by
  have h' := h
  simp [setOk] at h'
  have h3 : l.all spanOk = true := by unfold setOk at h; rw [Bool.and_eq_true] at h; exact h.2
  have := setTo_len h3 l.length
  unfold setT; omega
theorem head_len {k : K} (h : nodeOk k = true) : (headK k).length ≤ 42 := by
  unfold headK
  have := fwordL_len k.flag
  by_cases h0 : k.kind = 0
  · rw [if_pos h0]; simp
  rw [if_neg h0]
  by_cases h1 : k.kind = 1
  · rw [if_pos h1]; omega
  rw [if_neg h1]
  by_cases h2 : k.kind = 2
  · rw [if_pos h2]
    have := node_name h h2
    have e : k.text.size = k.text.data.toList.length := by simp
    rw [List.length_append]; simp at e ⊢; omega
  rw [if_neg h2]
  by_cases h3 : k.kind = 3
  · rw [if_pos h3]
    have := setT_len (node_set h (.inl h3))
    rw [List.length_append]; simp; omega
  rw [if_neg h3]
  by_cases h4 : k.kind = 4
  · rw [if_pos h4]
    have := setT_len (node_set h (.inr h4))
    rw [List.length_append]; simp; omega
  rw [if_neg h4]
  split
  · simp
  · split <;> simp
theorem flat_len : ∀ (l : List K), (∀ c ∈ l, (fmtK c).length + 1 ≤ 60 * c.nodes) → ((l.map fun c => 32 :: fmtK c).flatten).length ≤ 60 * (l.map K.nodes).sum
  | [], _ => by simp
  | x :: l, h => by
    have h1 := h x (List.mem_cons_self ..)
    have h2 := flat_len l fun c hc => h c (List.mem_cons_of_mem _ hc)
    simp only [List.map_cons, List.flatten_cons, List.length_append, List.length_cons, List.sum_cons] at h2 ⊢
    omega
theorem fmt_len (k : K) : k.allOk = true → (fmtK k).length + 1 ≤ 60 * k.nodes := by
  induction k using K.ind with
  | h k ih =>
    intro h
    rw [K.allOk_eq, Bool.and_eq_true] at h
    have hs := List.all_eq_true.1 h.1
    have h1 := head_len h.2
    have h2 := flat_len k.keys fun c hc => ih c hc (hs c hc)
    rw [fmtK_eq, K.nodes_eq, List.length_append]
    omega
theorem nodes_mem {k c : K} (h : c ∈ k.keys) : c.nodes ≤ k.nodes := by
  have := le_sum (k.keys.map K.nodes) c.nodes (List.mem_map_of_mem h)
  rw [K.nodes_eq k]; omega
theorem fmt_not {k : K} (h : k.kind = 5) (hl : k.keys.length = 1) (h0 : 0 < k.keys.length) : fmtK k = ([110, 111, 116, 32] : List UInt8) ++ fmtK k.keys[0] := by
  rw [fmtK_eq]
  unfold headK
  rw [if_neg (by omega), if_neg (by omega), if_neg (by omega), if_neg (by omega), if_neg (by omega), if_pos h]
  obtain ⟨c, hc⟩ := List.length_eq_one_iff.1 hl
  have e : k.keys[0] = c := by simp [hc]
  rw [e, hc]; simp
theorem fmt_two {k : K} (h : 6 ≤ k.kind) (hl : k.keys.length = 2) (h1 : 1 < k.keys.length) : fmtK k = (if k.kind = 6 then ([97, 110, 100, 32] : List UInt8) else ([111, 114, 32] : List UInt8)) ++ fmtK k.keys[0] ++ ([32] : List UInt8) ++ fmtK k.keys[1] := by
  rw [fmtK_eq]
  unfold headK
  rw [if_neg (by omega), if_neg (by omega), if_neg (by omega), if_neg (by omega), if_neg (by omega), if_neg (by omega)]
  obtain ⟨c, d, hc⟩ : ∃ c d, k.keys = [c, d] := by
    rcases hk : k.keys with _ | ⟨c, _ | ⟨d, _ | ⟨e, l⟩⟩⟩
    · rw [hk] at hl; simp at hl
    · rw [hk] at hl; simp at hl
    · exact ⟨c, d, rfl⟩
    · rw [hk] at hl; simp at hl
  have e : k.keys[0] = c := by simp [hc]
  have e2 : k.keys[1] = d := by simp [hc]
  rw [e, e2, hc]
  split <;> simp
end Go.Proofs.YtgcdopmidmelfaaDoor

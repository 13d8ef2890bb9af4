/- PLAIN LEAN: the numbers of a set, by marks; what the program's nodes find. -/
import Derived.Test.YtlkfaamjbecieaaDoorKLaws
namespace Go.Proofs.YtlkfaamjbecieaaDoor
set_option linter.unusedVariables false

def bnd (x last : Int) : Int := if x = 0 then last else x
/-- Which numbers are marked. -/
def markOf (s : List (Int × Int)) (last : Int) (n : Nat) : Bool := decide (1 ≤ n) && (decide ((n : Int) ≤ last) && setHas s last n)
theorem bnd_in {x last : Int} (h0 : 0 ≤ x) (h9 : x ≤ 99) (h1 : 1 ≤ last) (h2 : last ≤ 99) : 1 ≤ bnd x last ∧ bnd x last ≤ 99 := by
  unfold bnd; split <;> omega
theorem spanHas_bnd (last n : Int) (s : Int × Int) : spanHas last n s = (decide (min (bnd s.1 last) (bnd s.2 last) ≤ n) && decide (n ≤ max (bnd s.1 last) (bnd s.2 last))) := rfl
theorem markOf_nil (last : Int) (n : Nat) : markOf [] last n = false := by simp [markOf, setHas]
theorem markOf_succ {s : List (Int × Int)} {last : Int} {k : Nat} (hk : k < s.length) (n : Nat) :
    markOf (s.take (k + 1)) last n = (markOf (s.take k) last n || (decide (1 ≤ n) && (decide ((n : Int) ≤ last) && spanHas last n s[k]))) := by
  unfold markOf setHas
  rw [List.take_succ_eq_append_getElem hk, List.any_append]
  simp only [List.any_cons, List.any_nil, Bool.or_false]
  rcases decide (1 ≤ n) with _ | _ <;> rcases decide ((n : Int) ≤ last) with _ | _ <;> simp
/-- One span's marks: from the lower end to the upper one, up to the last number. -/
theorem mark_end {s : List (Int × Int)} {last : Int} {k : Nat} (hk : k < s.length) {lo hi : Int} (hlo : bnd s[k].1 last = lo) (hhi : bnd s[k].2 last = hi) {f e : Nat} (hf : (f : Int) = min lo hi) (he : (e : Int) = max lo hi) (h1 : 1 ≤ f) {m : Nat} (hm1 : f ≤ m) (hm2 : m = f ∨ ((m : Int) ≤ (e : Int) + 1 ∧ (m : Int) ≤ last + 1)) (hm3 : ¬ (m : Int) ≤ min (e : Int) last) (n : Nat) :
    (markOf (s.take k) last n || (decide (f ≤ n) && decide (n < m))) = markOf (s.take (k + 1)) last n := by
  rw [markOf_succ hk, spanHas_bnd, hlo, hhi, ← hf, ← he]
  congr 1
  rw [Bool.eq_iff_iff]
  simp only [Bool.and_eq_true, decide_eq_true_eq]
  omega
theorem mark_step (g : Nat → Bool) (f m n : Nat) (h : f ≤ m) : (if n = m then true else (g n || (decide (f ≤ n) && decide (n < m)))) = (g n || (decide (f ≤ n) && decide (n < m + 1))) := by
  by_cases hn : n = m
  · subst hn; simp [h]
  · rw [if_neg hn]
    congr 2
    exact decide_eq_decide.2 (by omega)
theorem mark_start (g : Nat → Bool) (f n : Nat) : (g n || (decide (f ≤ n) && decide (n < f))) = g n := by
  have : (decide (f ≤ n) && decide (n < f)) = false := by
    rw [Bool.and_eq_false_iff]; by_cases h : f ≤ n
    · right; simp; omega
    · left; simpa using h
  rw [this, Bool.or_false]
def markNums (s : List (Int × Int)) (last : Int) (n : Nat) : List Int := ((List.range n).filter (markOf s last)).map fun i : Nat => (i : Int)
theorem markNums_succ (s : List (Int × Int)) (last : Int) (n : Nat) : markNums s last (n + 1) = markNums s last n ++ if markOf s last n then [(n : Int)] else [] := by
  unfold markNums
  rw [List.range_succ, List.filter_append, List.map_append]
  by_cases h : markOf s last n = true
  · simp [h]
  · simp [h]
theorem markNums_len (s : List (Int × Int)) (last : Int) (n : Nat) : (markNums s last n).length ≤ n := by
  unfold markNums
  rw [List.length_map]
  have := List.length_filter_le (markOf s last) (List.range n)
  simpa using this
theorem numsTo_succ (s : List (Int × Int)) (last : Int) (n : Nat) : numsTo s last (n + 1) = numsTo s last n ++ if setHas s last ((n : Int) + 1) then [(n : Int) + 1] else [] := by
  unfold numsTo
  rw [List.range_succ, List.filter_append, List.map_append]
  by_cases h : setHas s last ((n : Int) + 1) = true
  · simp [h]
  · simp [h]
theorem markNums_low (s : List (Int × Int)) (last : Int) : ∀ n : Nat, (n : Int) ≤ last → markNums s last (n + 1) = numsTo s last n
  | 0, _ => by
    rw [markNums_succ]
    have : markOf s last 0 = false := by simp [markOf]
    rw [this]
    simp [markNums, numsTo]
  | n + 1, h => by
    rw [markNums_succ, markNums_low s last n (by omega), numsTo_succ]
    congr 1
    have : markOf s last (n + 1) = setHas s last ((n : Int) + 1) := by
      unfold markOf
      have h1 : decide (1 ≤ n + 1) = true := by simp
      have h2 : decide (((n + 1 : Nat) : Int) ≤ last) = true := by simpa using h
      rw [h1, h2]
      simp
    rw [this]
    rfl
theorem markNums_high (s : List (Int × Int)) (last : Int) (m : Nat) (hm : last = (m : Int)) : ∀ d : Nat, markNums s last (m + 1 + d) = numsTo s last m
  | 0 => markNums_low s last m (by omega)
  | d + 1 => by
    rw [show m + 1 + (d + 1) = (m + 1 + d) + 1 from by omega, markNums_succ, markNums_high s last m hm d]
    have : markOf s last (m + 1 + d) = false := by
      unfold markOf
      have h2 : decide (((m + 1 + d : Nat) : Int) ≤ last) = false := by simp; omega
      rw [h2]; simp
    rw [this]; simp
theorem markNums_all {s : List (Int × Int)} {last l : Int} (hl : min last 99 = l) (h1 : 1 ≤ last) (hs : setOk s = true) : markNums s l 100 = numbersOf s last := by
  obtain ⟨m, hm⟩ := Int.eq_ofNat_of_zero_le (show 0 ≤ l by omega)
  have hm99 : m ≤ 99 := by omega
  have := markNums_high s l m hm (99 - m)
  rw [show m + 1 + (99 - m) = 100 from by omega] at this
  rw [this]
  unfold numbersOf
  rw [hs, if_pos rfl, hl, hm]
  rfl
theorem numbersOf_low {s : List (Int × Int)} {last : Int} (h : last < 1) : numbersOf s last = [] := by
  unfold numbersOf
  split
  · have : (min last 99).toNat = 0 := by omega
    rw [this]; simp [numsTo]
  · rfl
theorem numbersOf_no {s : List (Int × Int)} {last : Int} (h : setOk s = false) : numbersOf s last = [] := by simp [numbersOf, h]
theorem numbers_mem {s : List (Int × Int)} {last p : Int} (hs : setOk s = true) : p ∈ numbersOf s last ↔ 1 ≤ p ∧ p ≤ min last 99 ∧ setHas s (min last 99) p = true := by
  unfold numbersOf
  rw [hs, if_pos rfl, mem_nums]
  constructor
  · rintro ⟨h1, h2, h3⟩; exact ⟨h1, by omega, h3⟩
  · rintro ⟨h1, h2, h3⟩; exact ⟨h1, by omega, h3⟩
theorem numbers_len (s : List (Int × Int)) (last : Int) : (numbersOf s last).length ≤ 99 := by
  unfold numbersOf
  split
  · unfold numsTo
    rw [List.length_map]
    have := List.length_filter_le (fun i : Nat => setHas s (min last 99) ((i : Int) + 1)) (List.range (min last 99).toNat)
    simp at this
    omega
  · simp
/-! What the program's nodes find. -/
theorem has_found {b : B} {k : K} (hb : bok b = true) (hk : k.kind = 1) (hn : nodeOk k = true) {i : Nat} {m : M} (h : b.mail[i]? = some m) : found b k i = haveB m.flags k.flag := by
  have hfl : flag1 k.flag = true := by
    unfold nodeOk nodeB at hn
    rw [if_neg (by omega), if_pos hk, Bool.and_eq_true, Bool.and_eq_true] at hn
    exact (Bool.and_eq_true_iff.1 hn.2).1
  obtain ⟨f, hf, hf2⟩ : ∃ f : Nat, k.flag = (f : Int) ∧ (f = 1 ∨ f = 2 ∨ f = 4 ∨ f = 8 ∨ f = 16) := by
    simp [flag1] at hfl
    rcases hfl with (((h | h) | h) | h) | h
    · exact ⟨1, h, by omega⟩
    · exact ⟨2, h, by omega⟩
    · exact ⟨4, h, by omega⟩
    · exact ⟨8, h, by omega⟩
    · exact ⟨16, h, by omega⟩
  have hm : mok m = true := bok_mok hb _ (List.mem_of_getElem? h)
  rw [found_of h, K.finds_eq, hf, flag_have hm hf2]
  simp [hk, leafFinds, hf]
theorem all_found {b : B} {k : K} (hk : k.kind = 0) {i : Nat} {m : M} (h : b.mail[i]? = some m) : found b k i = true := by
  rw [found_of h, K.finds_eq]; simp [hk, leafFinds]
theorem text_node {b : B} {k : K} (hk : k.kind = 2) {i : Nat} {m : M} (h : b.mail[i]? = some m) : found b k i = partAt m.text.data.toList k.text.data.toList := by
  rw [found_of h, K.finds_eq]; simp [hk, leafFinds]
theorem node_set {k : K} (hk : k.kind = 3 ∨ k.kind = 4) (hn : nodeOk k = true) : setOk k.set = true := by
  unfold nodeOk nodeB at hn
  rw [if_neg (by omega), if_neg (by omega), if_neg (by omega), if_pos hk, Bool.and_eq_true, Bool.and_eq_true] at hn
  exact (Bool.and_eq_true_iff.1 hn.2).1
theorem place_node {b : B} {k : K} (hb : bok b = true) (hk : k.kind = 3) (hn : nodeOk k = true) {i : Nat} (h : i < b.mail.length) : found b k i = hasB (numbersOf k.set b.mail.length) ((i : Int) + 1) := by
  have h10 := (bok_next hb).2.2
  have e : min (b.mail.length : Int) 99 = b.mail.length := by omega
  rw [found_of (List.getElem?_eq_getElem h), K.finds_eq, Bool.eq_iff_iff, hasB_mem, numbers_mem (node_set (.inl hk) hn), e, if_neg (by omega), if_neg (by omega), if_neg (by omega)]
  have hx : leafFinds b k i b.mail[i] = setHas k.set b.mail.length ((i : Int) + 1) := by simp [leafFinds, hk]
  rw [hx]
  exact ⟨fun h3 => ⟨by omega, by omega, h3⟩, fun h3 => h3.2.2⟩
theorem uid_node {b : B} {k : K} (hb : bok b = true) (hk : k.kind = 4) (hn : nodeOk k = true) {i : Nat} {m : M} (h : b.mail[i]? = some m) : found b k i = hasB (numbersOf k.set (lastUid b)) m.uid := by
  obtain ⟨hi, rfl⟩ := List.getElem?_eq_some_iff.1 h
  obtain ⟨l1, l2, hall⟩ := lastUid_is hb (by omega)
  obtain ⟨u1, u2⟩ := hall i hi
  have e : min (lastUid b) 99 = lastUid b := by omega
  rw [found_of h, K.finds_eq, Bool.eq_iff_iff, hasB_mem, numbers_mem (node_set (.inr hk) hn), e, if_neg (by omega), if_neg (by omega), if_neg (by omega)]
  have hx : leafFinds b k i b.mail[i] = setHas k.set (lastUid b) b.mail[i].uid := by simp [leafFinds, hk]
  rw [hx]
  exact ⟨fun h3 => ⟨u1, u2, h3⟩, fun h3 => h3.2.2⟩
theorem not_node {b : B} {k : K} (hk : k.kind = 5) (h1 : 0 < k.keys.length) {i : Nat} {m : M} (h : b.mail[i]? = some m) : found b k i = !found b k.keys[0] i := by
  rw [found_of h, found_of h, K.finds_eq, if_pos hk, List.getD_eq_getElem?_getD, List.getElem?_map, List.getElem?_eq_getElem h1]; rfl
theorem and_node {b : B} {k : K} (hk : k.kind = 6) (h1 : 1 < k.keys.length) {i : Nat} {m : M} (h : b.mail[i]? = some m) : found b k i = (found b (k.keys[0]'(by omega)) i && found b k.keys[1] i) := by
  rw [found_of h, found_of h, found_of h, K.finds_eq]
  simp [hk, List.getD_eq_getElem?_getD, List.getElem?_map, List.getElem?_eq_getElem h1, List.getElem?_eq_getElem (show 0 < k.keys.length by omega)]
theorem or_node {b : B} {k : K} (hk : k.kind = 7) (h1 : 1 < k.keys.length) {i : Nat} {m : M} (h : b.mail[i]? = some m) : found b k i = (found b (k.keys[0]'(by omega)) i || found b k.keys[1] i) := by
  rw [found_of h, found_of h, found_of h, K.finds_eq]
  simp [hk, List.getD_eq_getElem?_getD, List.getElem?_map, List.getElem?_eq_getElem h1, List.getElem?_eq_getElem (show 0 < k.keys.length by omega)]
theorem pair_node {b : B} {k : K} (hk : k.kind = 6 ∨ k.kind = 7) (h1 : 1 < k.keys.length) {i : Nat} {m : M} (h : b.mail[i]? = some m) :
    found b k i = if (k.kind == 6) = true then (found b (k.keys[0]'(by omega)) i && found b k.keys[1] i) else (found b (k.keys[0]'(by omega)) i || found b k.keys[1] i) := by
  rcases hk with hk | hk
  · rw [and_node hk h1 h]; simp [hk]
  · rw [or_node hk h1 h]; simp [hk]
/-- Places are marked. -/
theorem place_marks (ns : List Int) (n i : Nat) (p : Int) (h : ns[n]? = some p) (hp : 1 ≤ p) : (if i = (p - 1).toNat then true else hasB (ns.take n) ((i : Int) + 1)) = hasB (ns.take (n + 1)) ((i : Int) + 1) := by
  obtain ⟨hn, rfl⟩ := List.getElem?_eq_some_iff.1 h
  rw [Bool.eq_iff_iff, hasB_mem, List.take_succ_eq_append_getElem hn]
  by_cases hi : i = (ns[n] - 1).toNat
  · rw [if_pos hi]
    simp only [true_iff, List.mem_append, List.mem_singleton]
    right; omega
  · rw [if_neg hi, hasB_mem]
    simp only [List.mem_append, List.mem_singleton]
    constructor
    · exact Or.inl
    · rintro (h | h)
      · exact h
      · omega
end Go.Proofs.YtlkfaamjbecieaaDoor

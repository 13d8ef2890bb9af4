/- PLAIN LEAN: more of mailboxes: what appending, copying, changing flags, removing and looking up come to, and the laws of each. -/
import Derived.Test.YtpahgjideppmoaaBoxPlain
namespace Go.Proofs.Ytpahgjideppmoaa

theorem asc_le : ∀ (l : List M) (x y : Int), asc x l = some y → x ≤ y ∧ ∀ m ∈ l, m.uid ≤ y
  | [], x, y, h => by simp [asc] at h; subst h; exact ⟨Int.le_refl _, by simp⟩
  | a :: l, x, y, h => by
    simp only [asc] at h
    split at h
    · next hc =>
      simp only [Bool.and_eq_true, decide_eq_true_eq] at hc
      have k := asc_le l a.uid y h
      refine ⟨by omega, fun m hm => ?_⟩
      rcases List.mem_cons.1 hm with rfl | hm
      · exact k.1
      · exact k.2 m hm
    · cases h
theorem bok_asc {b : B} (h : bok b = true) : ∃ y, asc 0 b.mail = some y ∧ y < b.next ∧ b.next ≤ 100 ∧ b.mail.length ≤ 10 ∧ y ≤ 99 := by
  unfold bok at h
  split at h
  · cases h
  · next y hy =>
    have := asc_bd _ _ _ (by omega) (by omega) hy
    simp at h
    exact ⟨y, hy, by omega⟩
theorem asc_lower : ∀ (l : List M) (x x' y : Int), asc x l = some y → x' ≤ x → ∃ y', asc x' l = some y' ∧ y' ≤ y
  | [], x, x', y, h, hx => by simp [asc] at h; exact ⟨x', rfl, by omega⟩
  | a :: l, x, x', y, h, hx => by
    simp only [asc] at h ⊢
    split at h
    · next hc =>
      simp only [Bool.and_eq_true, decide_eq_true_eq] at hc
      rw [if_pos (by simp [hc.1]; omega)]
      exact ⟨y, h, Int.le_refl _⟩
    · cases h
theorem bok_intro {b : B} {y : Int} (h : asc 0 b.mail = some y) (h1 : b.mail.length ≤ 10) (h2 : y < b.next) (h3 : b.next ≤ 100) : bok b = true := by
  rw [bok_some h]; simp [h1, h2, h3]
/-- Messages in order: the numbers ascend. -/
theorem asc_pairs : ∀ (l : List M) (x y : Int), asc x l = some y → (∀ m ∈ l, x < m.uid) ∧ l.Pairwise (fun a b => a.uid < b.uid)
  | [], x, y, h => by simp
  | a :: l, x, y, h => by
    simp only [asc] at h
    split at h
    · next hc =>
      simp only [Bool.and_eq_true, decide_eq_true_eq] at hc
      obtain ⟨k1, k2⟩ := asc_pairs l a.uid y h
      refine ⟨fun m hm => ?_, List.pairwise_cons.2 ⟨fun m hm => k1 m hm, k2⟩⟩
      rcases List.mem_cons.1 hm with rfl | hm
      · exact hc.2
      · have := k1 m hm; omega
    · cases h
theorem asc_of : ∀ (l : List M) (x : Int), (∀ m ∈ l, mok m = true) → (∀ m ∈ l, x < m.uid) → l.Pairwise (fun a b => a.uid < b.uid) → ∃ y, asc x l = some y ∧ (y = x ∨ ∃ m ∈ l, y = m.uid)
  | [], x, _, _, _ => ⟨x, rfl, .inl rfl⟩
  | a :: l, x, h1, h2, h3 => by
    rw [List.pairwise_cons] at h3
    obtain ⟨y, hy, hc⟩ := asc_of l a.uid (fun m hm => h1 m (by simp [hm])) (fun m hm => h3.1 m hm) h3.2
    refine ⟨y, ?_, ?_⟩
    · simp only [asc]
      rw [if_pos (by simp [h1 a (by simp), h2 a (by simp)])]
      exact hy
    · rcases hc with rfl | ⟨m, hm, rfl⟩
      · exact .inr ⟨a, by simp, rfl⟩
      · exact .inr ⟨m, by simp [hm], rfl⟩
/-- A mailbox is valid exactly if its messages are, their numbers ascend and are less than the next one. -/
theorem bok_facts {b : B} (h : bok b = true) : (∀ m ∈ b.mail, mok m = true) ∧ b.mail.Pairwise (fun a b => a.uid < b.uid) ∧ (∀ m ∈ b.mail, m.uid < b.next) ∧ 1 ≤ b.next ∧ b.next ≤ 100 ∧ b.mail.length ≤ 10 := by
  obtain ⟨y, hy, h1, h2, h3, h4⟩ := bok_asc h
  have h5 := bok_next h
  refine ⟨bok_mok h, (asc_pairs _ _ _ hy).2, fun m hm => ?_, h5.1, h5.2.1, h5.2.2⟩
  have := (asc_le _ _ _ hy).2 m hm
  omega
theorem bok_of {b : B} (h1 : ∀ m ∈ b.mail, mok m = true) (h2 : b.mail.Pairwise (fun a b => a.uid < b.uid)) (h3 : ∀ m ∈ b.mail, m.uid < b.next) (h4 : 1 ≤ b.next) (h5 : b.next ≤ 100) (h6 : b.mail.length ≤ 10) : bok b = true := by
  obtain ⟨y, hy, hc⟩ := asc_of b.mail 0 h1 (fun m hm => by have := mok_uid (h1 m hm); omega) h2
  refine bok_intro hy h6 ?_ h5
  rcases hc with rfl | ⟨m, hm, rfl⟩
  · omega
  · exact h3 m hm
/-- Parts of valid mailboxes. -/
theorem bok_sub {b : B} (h : bok b = true) {l : List M} (hl : l.Sublist b.mail) : bok ⟨b.next, l⟩ = true := by
  obtain ⟨f1, f2, f3, f4, f5, f6⟩ := bok_facts h
  exact bok_of (fun m hm => f1 m (hl.subset hm)) (f2.sublist hl) (fun m hm => f3 m (hl.subset hm)) f4 f5 (Nat.le_trans hl.length_le f6)
theorem bok_take {b : B} (h : bok b = true) (k : Nat) : bok ⟨b.next, b.mail.take k⟩ = true := bok_sub h (List.take_sublist _ _)
theorem bok_drop {b : B} (h : bok b = true) (k : Nat) : bok ⟨b.next, b.mail.drop k⟩ = true := bok_sub h (List.drop_sublist _ _)
/-- A message twice makes a mailbox invalid. -/
theorem bok_dup {n : Int} {l r : List M} {m : M} : bok ⟨n, l ++ [m] ++ m :: r⟩ = false := by
  rcases h : bok ⟨n, l ++ [m] ++ m :: r⟩ with _ | _
  · rfl
  · obtain ⟨_, f2, _⟩ := bok_facts h
    have f2 : (l ++ [m] ++ m :: r).Pairwise (fun a b => a.uid < b.uid) := f2
    rw [List.pairwise_append] at f2
    have := f2.2.2 m (by simp) m (by simp)
    omega

/-! ### Appending. -/
theorem addTo_ok {b : B} {f : Int} {t : ByteArray} (h : bok b = true) (hf : fok f = true) (ht : t.size ≤ 20) : bok (addTo b f t).1 = true := by
  obtain ⟨f1, f2, f3, f4, f5, f6⟩ := bok_facts h
  unfold addTo
  split
  · exact h
  · next hc =>
    refine bok_of ?_ ?_ ?_ (by dsimp only; omega) (by dsimp only; omega) (by dsimp only; simp; omega)
    · intro m hm
      simp at hm
      rcases hm with hm | rfl
      · exact f1 m hm
      · simp [mok, hf, ht]; omega
    · rw [List.pairwise_append]
      refine ⟨f2, by simp, fun a ha c hc' => ?_⟩
      simp at hc'
      subst hc'
      exact f3 a ha
    · intro m hm
      simp at hm
      dsimp only
      rcases hm with hm | rfl
      · have := f3 m hm; omega
      · show b.next < b.next + 1; omega
theorem addTo_yes {b : B} {f : Int} {t : ByteArray} (h1 : b.mail.length < 10) (h2 : b.next ≤ 99) : addTo b f t = (⟨b.next + 1, b.mail ++ [⟨b.next, f, t⟩]⟩, true) := by
  unfold addTo; rw [if_neg (by omega)]
theorem addTo_no {b : B} {f : Int} {t : ByteArray} (h : 10 ≤ b.mail.length ∨ 99 < b.next) : addTo b f t = (b, false) := by
  unfold addTo; rw [if_pos h]
/-- What a successful append says. -/
theorem appendTo_ok {b : B} {f : Int} {t : ByteArray} (h : (appendTo b f t).2 = true) :
    bok b = true ∧ fok f = true ∧ t.size ≤ 20 ∧ b.mail.length < 10 ∧ b.next ≤ 99 ∧ appendTo b f t = (⟨b.next + 1, b.mail ++ [⟨b.next, f, t⟩]⟩, true) ∧ bok ⟨b.next + 1, b.mail ++ [⟨b.next, f, t⟩]⟩ = true := by
  by_cases hc : bok b = true ∧ fok f = true ∧ t.size ≤ 20
  · obtain ⟨h1, h2, h3⟩ := hc
    have ho := addTo_ok h1 h2 h3
    rw [appendTo_yes h1 h2 h3] at h ⊢
    by_cases hn : 10 ≤ b.mail.length ∨ 99 < b.next
    · rw [addTo_no hn] at h; cases h
    · have e := addTo_yes (b := b) (f := f) (t := t) (by omega) (by omega)
      rw [e] at ho ⊢
      exact ⟨h1, h2, h3, by omega, by omega, rfl, ho⟩
  · rw [appendTo_no (by
      rcases hb : bok b with _ | _
      · exact .inl rfl
      · rcases hf : fok f with _ | _
        · exact .inr (.inl rfl)
        · exact .inr (.inr fun ht => hc ⟨hb, hf, ht⟩))] at h
    cases h
theorem appendTo_full {b : B} {f : Int} {t : ByteArray} (h : (appendTo b f t).2 = false) (h1 : bok b = true) (h2 : fok f = true) (h3 : t.size ≤ 20) : (appendTo b f t).1 = b ∧ (b.mail.length = 10 ∨ 99 < b.next) := by
  rw [appendTo_yes h1 h2 h3] at h ⊢
  have hl := (bok_next h1).2.2
  by_cases hn : 10 ≤ b.mail.length ∨ 99 < b.next
  · rw [addTo_no hn]; exact ⟨rfl, by omega⟩
  · rw [addTo_yes (by omega) (by omega)] at h; cases h

/-! ### Numbers of messages. -/
/-- Numbers ascend, from above a number to at most another one. -/
def ascN (x c : Int) : List Int → Bool
  | [] => true
  | p :: r => decide (x < p) && decide (p ≤ c) && ascN p c r
def numsOk (c : Nat) (l : List Int) : Bool := ascN 0 c l
theorem ascN_append : ∀ (l r : List Int) (x c : Int), ascN x c (l ++ r) = (ascN x c l && ascN (l.getLast?.getD x) c r)
  | [], r, x, c => by simp [ascN]
  | a :: l, r, x, c => by
    simp only [List.cons_append, ascN]
    rw [ascN_append l r a c]
    rw [List.getLast?_cons]
    simp [Bool.and_assoc]
theorem ascN_mem : ∀ (l : List Int) (x c : Int), ascN x c l = true → ∀ p ∈ l, x < p ∧ p ≤ c
  | [], x, c, _, p, hp => by simp at hp
  | a :: l, x, c, h, p, hp => by
    simp only [ascN, Bool.and_eq_true, decide_eq_true_eq] at h
    rcases List.mem_cons.1 hp with rfl | hp
    · exact ⟨h.1.1, h.1.2⟩
    · have := ascN_mem l a c h.2 p hp; omega
theorem ascN_take {l : List Int} {x c : Int} (h : ascN x c l = true) (n : Nat) : ascN x c (l.take n) = true := by
  rw [← List.take_append_drop n l, ascN_append] at h
  simp at h; exact h.1
theorem ascN_drop : ∀ (l : List Int) (x c : Int) (i : Nat), ascN x c l = true → ∀ (h : i < l.length), x < l[i] ∧ l[i] ≤ c ∧ ascN l[i] c (l.drop (i + 1)) = true
  | a :: l, x, c, 0, h, hi => by
    simp only [ascN, Bool.and_eq_true, decide_eq_true_eq] at h
    exact ⟨h.1.1, h.1.2, by simpa using h.2⟩
  | a :: l, x, c, i + 1, h, hi => by
    simp only [ascN, Bool.and_eq_true, decide_eq_true_eq] at h
    have := ascN_drop l a c i h.2 (by simpa using hi)
    simp only [List.getElem_cons_succ, List.drop_succ_cons]
    exact ⟨by omega, this.2.1, this.2.2⟩
theorem ascN_before : ∀ (l : List Int) (x c : Int), ascN x c l = true → ∀ (i j : Nat) (hi : i < l.length) (hj : j < l.length), i < j → l[i] < l[j] := by
  intro l x c h i j hi hj hij
  have := (ascN_drop l x c i h hi).2.2
  have := ascN_mem _ _ _ this l[j] (by
    rw [List.mem_iff_getElem]
    exact ⟨j - (i + 1), by simp; omega, by simp; congr 1; omega⟩)
  exact this.1
/-- The walk's step: one number more. -/
theorem ascN_yes {l : List Int} {c x : Int} {n : Nat} (h : n < l.length) (hA : ascN 0 c (l.take n) = true) (hx : (l.take n).getLast?.getD 0 = x) (h1 : x < l[n]) (h2 : l[n] ≤ c) :
    ascN 0 c (l.take (n + 1)) = true ∧ (l.take (n + 1)).getLast?.getD 0 = l[n] := by
  have e : l.take (n + 1) = l.take n ++ [l[n]] := List.take_succ_eq_append_getElem h
  refine ⟨?_, ?_⟩
  · rw [e, ascN_append, hA, hx]
    simp [ascN, h1, h2]
  · rw [e, List.getLast?_concat]; rfl
theorem ascN_no {l : List Int} {c x : Int} {n : Nat} (h : n < l.length) (hx : (l.take n).getLast?.getD 0 = x) (h1 : ¬ x < l[n] ∨ ¬ l[n] ≤ c) : ascN 0 c l = false := by
  have e : l = l.take n ++ ([l[n]] ++ l.drop (n + 1)) := by simp
  rw [e, ascN_append, ascN_append, hx]
  rcases h1 with h1 | h1 <;> simp [ascN, h1]

/-! ### Changing flags. -/
def flagAt (how o : Int) (l : List M) (p : Int) : List M := l.modify (p.toNat - 1) fun m => { m with flags := changed m.flags how o }
def flagAll (how o : Int) (l : List M) (ps : List Int) : List M := ps.foldl (flagAt how o) l
def flagsTo (b : B) (ps : List Int) (how o : Int) : B × Bool :=
  if bok b && numsOk b.mail.length ps && hok how && fok o then (⟨b.next, flagAll how o b.mail ps⟩, true) else (nobox, false)
theorem flagAll_len (how o : Int) : ∀ (ps : List Int) (l : List M), (flagAll how o l ps).length = l.length
  | [], l => rfl
  | p :: ps, l => by
    show (flagAll how o (flagAt how o l p) ps).length = _
    rw [flagAll_len how o ps]; simp [flagAt]
theorem flagAll_snoc (how o : Int) (l : List M) (ps : List Int) (p : Int) : flagAll how o l (ps ++ [p]) = flagAt how o (flagAll how o l ps) p := by simp [flagAll, List.foldl_append]
theorem flagAt_set {how o : Int} {l : List M} {p : Int} {m : M} (h : l[p.toNat - 1]? = some m) : flagAt how o l p = l.set (p.toNat - 1) { m with flags := changed m.flags how o } := by
  unfold flagAt
  refine List.ext_getElem? fun i => ?_
  have hlt := (List.getElem?_eq_some_iff.1 h).1
  rw [List.getElem?_modify, List.getElem?_set]
  by_cases hi : p.toNat - 1 = i
  · subst hi
    rw [if_pos rfl, if_pos hlt, h]; simp
  · rw [if_neg hi]; simp [hi]
theorem flagAll_get (how o : Int) : ∀ (ps : List Int) (l : List M) (x c : Int), 0 ≤ x → ascN x c ps = true → ∀ (i : Nat) (m : M), l[i]? = some m →
    (flagAll how o l ps)[i]? = some (if ((i : Int) + 1) ∈ ps then { m with flags := changed m.flags how o } else m)
  | [], l, x, c, _, _, i, m, hm => by simp [flagAll, hm]
  | p :: ps, l, x, c, hx, h, i, m, hm => by
    simp only [ascN, Bool.and_eq_true, decide_eq_true_eq] at h
    show (flagAll how o (flagAt how o l p) ps)[i]? = _
    by_cases hp : (i : Int) + 1 = p
    · have hi : p.toNat - 1 = i := by omega
      have h1 : (flagAt how o l p)[i]? = some { m with flags := changed m.flags how o } := by
        unfold flagAt; rw [hi, List.getElem?_modify, hm]; simp
      have hnot : ((i : Int) + 1) ∉ ps := fun hmem => by have := ascN_mem ps p c h.2 _ hmem; omega
      rw [flagAll_get how o ps _ p c (by omega) h.2 i _ h1, if_neg hnot, if_pos (by simp [hp])]
    · have h1 : (flagAt how o l p)[i]? = some m := by
        unfold flagAt; rw [List.getElem?_modify, hm]; simp; intro hh; omega
      rw [flagAll_get how o ps _ p c (by omega) h.2 i _ h1]
      simp [hp]

theorem snoc_ind {α : Type} {P : List α → Prop} (h0 : P []) (h1 : ∀ l a, P l → P (l ++ [a])) : ∀ l, P l := fun l => by
  have h : ∀ r : List α, P r.reverse := by
    intro r
    induction r with
    | nil => exact h0
    | cons a r ih => rw [List.reverse_cons]; exact h1 _ _ ih
  have := h l.reverse
  rwa [List.reverse_reverse] at this
/-! ### Copying. -/
def copyStep (b : B) (r : B × Bool) (p : Int) : B × Bool :=
  if r.2 then (match b.mail[p.toNat - 1]? with | some m => addTo r.1 m.flags m.text | none => r) else r
def copyRun (b : B) (ps : List Int) (to : B) : B × Bool := ps.foldl (copyStep b) (to, true)
def copyTo (b : B) (ps : List Int) (to : B) : B × Bool :=
  if bok b && bok to && numsOk b.mail.length ps then (if (copyRun b ps to).2 then copyRun b ps to else (to, false)) else (nobox, false)
theorem copyRun_snoc (b : B) (ps : List Int) (p : Int) (to : B) : copyRun b (ps ++ [p]) to = copyStep b (copyRun b ps to) p := by simp [copyRun, List.foldl_append]
theorem copyStep_stop (b : B) (r : B × Bool) (h : r.2 = false) : ∀ (ps : List Int), ps.foldl (copyStep b) r = r
  | [] => rfl
  | p :: ps => by
    have e : copyStep b r p = r := by unfold copyStep; rw [h]; rfl
    rw [List.foldl_cons, e, copyStep_stop b r h ps]
theorem copyRun_stop {b : B} {ps : List Int} {to : B} {n : Nat} (h : (copyRun b (ps.take n) to).2 = false) : copyRun b ps to = copyRun b (ps.take n) to := by
  have e : copyRun b ps to = (ps.drop n).foldl (copyStep b) (copyRun b (ps.take n) to) := by
    unfold copyRun; rw [← List.foldl_append, List.take_append_drop]
  rw [e, copyStep_stop b _ h]
theorem copyRun_ok {b : B} (hb : bok b = true) : ∀ (ps : List Int) (r : B × Bool), bok r.1 = true → bok (ps.foldl (copyStep b) r).1 = true
  | [], r, h => h
  | p :: ps, r, h => by
    rw [List.foldl_cons]
    refine copyRun_ok hb ps _ ?_
    unfold copyStep
    split
    · split
      · next m hm =>
        have := bok_mok hb m (List.mem_of_getElem? hm)
        exact addTo_ok h (mok_flags this) (mok_text this)
      · exact h
    · exact h
/-- A successful copy: as many messages more, with the next numbers. -/
theorem copyRun_yes {b : B} : ∀ (ps : List Int) (to : B), (∀ p ∈ ps, 1 ≤ p ∧ p ≤ b.mail.length) → (copyRun b ps to).2 = true →
    (copyRun b ps to).1.next = to.next + ps.length ∧ (copyRun b ps to).1.mail.length = to.mail.length + ps.length ∧ (copyRun b ps to).1.mail.take to.mail.length = to.mail ∧
    ∀ (i : Nat) (hi : i < ps.length) (m : M), b.mail[ps[i].toNat - 1]? = some m → (copyRun b ps to).1.mail[to.mail.length + i]? = some { m with uid := to.next + i } := by
  intro ps
  refine snoc_ind (P := fun (ps : List Int) => ∀ (to : B), (∀ p ∈ ps, 1 ≤ p ∧ p ≤ b.mail.length) → (copyRun b ps to).2 = true →
    (copyRun b ps to).1.next = to.next + ps.length ∧ (copyRun b ps to).1.mail.length = to.mail.length + ps.length ∧ (copyRun b ps to).1.mail.take to.mail.length = to.mail ∧
    ∀ (i : Nat) (hi : i < ps.length) (m : M), b.mail[ps[i].toNat - 1]? = some m → (copyRun b ps to).1.mail[to.mail.length + i]? = some { m with uid := to.next + i }) ?_ ?_ ps
  · intro to _ _; simp [copyRun]
  · intro ps p ih to hps h
    rw [copyRun_snoc] at h ⊢
    have h0 : (copyRun b ps to).2 = true := by
      rcases hc : (copyRun b ps to).2 with _ | _
      · unfold copyStep at h; rw [hc] at h; simp [hc] at h
      · rfl
    obtain ⟨i1, i2, i3, i4⟩ := ih to (fun q hq => hps q (by simp [hq])) h0
    have hp := hps p (by simp)
    have hlt : p.toNat - 1 < b.mail.length := by omega
    have hm := List.getElem?_eq_getElem hlt
    generalize b.mail[p.toNat - 1] = m at hm
    have e : copyStep b (copyRun b ps to) p = addTo (copyRun b ps to).1 m.flags m.text := by unfold copyStep; rw [h0, hm]; rfl
    rw [e] at h ⊢
    by_cases hn : 10 ≤ (copyRun b ps to).1.mail.length ∨ 99 < (copyRun b ps to).1.next
    · rw [addTo_no hn] at h; cases h
    · rw [addTo_yes (by omega) (by omega)]
      refine ⟨by dsimp only; simp; omega, by dsimp only; simp; omega, ?_, ?_⟩
      · dsimp only
        rw [List.take_append_of_le_length (by omega)]
        exact i3
      · intro i hi m' hm'
        dsimp only
        simp at hi
        by_cases h1 : i < ps.length
        · rw [List.getElem_append_left h1] at hm'
          rw [List.getElem?_append_left (by omega)]
          exact i4 i h1 m' hm'
        · have h2 : i = ps.length := by omega
          subst h2
          rw [List.getElem_concat_length rfl] at hm'
          rw [hm] at hm'
          cases hm'
          rw [List.getElem?_append_right (by omega)]
          have e3 : to.mail.length + ps.length - (copyRun b ps to).1.mail.length = 0 := by omega
          rw [e3, i1]
          rfl
/-- A copy that fails: there was no space. -/
theorem copyRun_no {b : B} : ∀ (ps : List Int) (to : B), (∀ p ∈ ps, 1 ≤ p ∧ p ≤ b.mail.length) → (copyRun b ps to).2 = false → 10 < to.mail.length + ps.length ∨ 100 < to.next + ps.length := by
  intro ps
  refine snoc_ind (P := fun (ps : List Int) => ∀ (to : B), (∀ p ∈ ps, 1 ≤ p ∧ p ≤ b.mail.length) → (copyRun b ps to).2 = false → 10 < to.mail.length + ps.length ∨ 100 < to.next + ps.length) ?_ ?_ ps
  · intro to _ h; simp [copyRun] at h
  · intro ps p ih to hps h
    rw [copyRun_snoc] at h
    have hps' : ∀ q ∈ ps, 1 ≤ q ∧ q ≤ b.mail.length := fun q hq => hps q (by simp [hq])
    rcases hc : (copyRun b ps to).2 with _ | _
    · have := ih to hps' hc
      simp; omega
    · obtain ⟨i1, i2, i3, i4⟩ := copyRun_yes ps to hps' hc
      have hp := hps p (by simp)
      have hlt : p.toNat - 1 < b.mail.length := by omega
      have hm := List.getElem?_eq_getElem hlt
      generalize b.mail[p.toNat - 1] = m at hm
      have e : copyStep b (copyRun b ps to) p = addTo (copyRun b ps to).1 m.flags m.text := by unfold copyStep; rw [hc, hm]; rfl
      rw [e] at h
      by_cases hn : 10 ≤ (copyRun b ps to).1.mail.length ∨ 99 < (copyRun b ps to).1.next
      · simp; omega
      · rw [addTo_yes (by omega) (by omega)] at h; cases h

/-! ### Looking up. -/
/-- Whether a list has a number. -/
def hasB (l : List Int) (x : Int) : Bool := l.contains x
theorem hasB_mem (l : List Int) (x : Int) : hasB l x = true ↔ x ∈ l := by simp [hasB]
def uidStep (us : List Int) (r : List Int) (n : Nat) (m : M) : List Int := if hasB us m.uid then r ++ [(n : Int) + 1] else r
def uidsTo (us : List Int) : List M → Nat → List Int
  | [], _ => []
  | m :: l, n => (if hasB us m.uid then [(n : Int) + 1] else []) ++ uidsTo us l (n + 1)
def uidsOf (b : B) (us : List Int) : List Int := if bok b then uidsTo us b.mail 0 else []
theorem uidsTo_append (us : List Int) : ∀ (l r : List M) (n : Nat), uidsTo us (l ++ r) n = uidsTo us l n ++ uidsTo us r (n + l.length)
  | [], r, n => by simp [uidsTo]
  | a :: l, r, n => by
    simp only [List.cons_append, uidsTo]
    rw [uidsTo_append us l r (n + 1), List.append_assoc]
    congr 3; simp; omega
theorem uidsTo_len (us : List Int) : ∀ (l : List M) (n : Nat), (uidsTo us l n).length ≤ l.length
  | [], n => by simp [uidsTo]
  | a :: l, n => by
    have := uidsTo_len us l (n + 1)
    simp only [uidsTo, List.length_append, List.length_cons]
    split <;> simp <;> omega
theorem uidsTo_take (us : List Int) {l : List M} {n : Nat} (h : n < l.length) : uidsTo us (l.take (n + 1)) 0 = uidStep us (uidsTo us (l.take n) 0) n l[n] := by
  rw [List.take_succ_eq_append_getElem h, uidsTo_append]
  have e : min n l.length = n := by omega
  simp only [List.length_take, e, Nat.zero_add, uidsTo, List.append_nil, uidStep]
  split <;> simp
end Go.Proofs.Ytpahgjideppmoaa

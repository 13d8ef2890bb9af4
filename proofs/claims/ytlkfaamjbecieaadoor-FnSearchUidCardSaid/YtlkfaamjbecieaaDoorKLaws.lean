/- PLAIN LEAN: the laws of a search. -/
import Derived.Test.YtlkfaamjbecieaaDoorKFind
import Derived.Test.YtlkfaamjbecieaaDoorBoxLaws
namespace Go.Proofs.YtlkfaamjbecieaaDoor
set_option linter.unusedVariables false

theorem search_yes {b : B} {k : K} (hb : bok b = true) (hk : keyOk k = true) : searchOf b k = placesTo b k b.mail.length := by simp [searchOf, hb, hk]
theorem search_no {b : B} {k : K} (h : keyOk k = false) : searchOf b k = [] := by simp [searchOf, h]
theorem has_search {b : B} {k : K} (hb : bok b = true) (hk : keyOk k = true) {i : Nat} (h : i < b.mail.length) : hasB (searchOf b k) ((i : Int) + 1) = found b k i := by
  rw [search_yes hb hk, ← places_at b k h, Bool.eq_iff_iff, decide_eq_true_eq]
  exact hasB_mem _ _
theorem keyOk_split (k : K) : keyOk k = true ↔ k.allOk = true ∧ k.nodes ≤ 9 := by simp [keyOk]
theorem keyOk_knot (k : K) (h : keyOk k = true) : keyOk (knot k) = decide (k.nodes < 9) := keyOk_not k h
theorem keyOk_join {n : Int} (hn : n = 6 ∨ n = 7) (a c : K) : keyOk (kjoin n a c) = (a.allOk && c.allOk && decide (1 + (a.nodes + c.nodes) ≤ 9)) := by
  unfold keyOk; rw [ok_join hn, nodes_join]
theorem found_of {b : B} {k : K} {i : Nat} {m : M} (h : b.mail[i]? = some m) : found b k i = k.finds b i m := by simp [found, h]
/-- Not finds the others. -/
theorem not_has {b : B} {k : K} (hb : bok b = true) (hk : keyOk k = true) (hx : keyOk (knot k) = true) {i : Nat} (h : i < b.mail.length) :
    hasB (searchOf b (knot k)) ((i : Int) + 1) = !hasB (searchOf b k) ((i : Int) + 1) := by
  rw [has_search hb hx h, has_search hb hk h, found_of (List.getElem?_eq_getElem h), found_of (List.getElem?_eq_getElem h), finds_not]
theorem not_count (b : B) (k : K) : ∀ n, n ≤ b.mail.length → (placesTo b (knot k) n).length + (placesTo b k n).length = n
  | 0, _ => by simp [placesTo]
  | n + 1, h => by
    have ih := not_count b k n (by omega)
    rw [placesTo_succ, placesTo_succ, found_of (List.getElem?_eq_getElem (by omega)), found_of (List.getElem?_eq_getElem (by omega)), finds_not]
    rcases K.finds b n b.mail[n] k with _ | _ <;> simp <;> omega
theorem not_len {b : B} {k : K} (hb : bok b = true) (hk : keyOk k = true) (hx : keyOk (knot k) = true) : (searchOf b (knot k)).length + (searchOf b k).length = b.mail.length := by
  rw [search_yes hb hx, search_yes hb hk]
  exact not_count b k _ (Nat.le_refl _)
/-- The key of one flag; it is valid. -/
def khas (f : Int) : K := .mk 1 f ⟨#[]⟩ [] []
theorem khas_ok {f : Int} (h : flag1 f = true) : (khas f).allOk = true ∧ (khas f).nodes = 1 ∧ keyOk (khas f) = true := by
  have h1 : (khas f).nodes = 1 := by rw [K.nodes_eq]; simp [khas, K.keys]
  have h2 : (khas f).allOk = true := by
    rw [K.allOk_eq]
    have : ((⟨#[]⟩ : ByteArray).size = 0) = True := eq_true rfl
    simp [khas, K.keys, nodeOk, nodeB, K.kind, K.flag, K.text, K.set, h]
    rfl
  exact ⟨h2, h1, by simp [keyOk, h1, h2]⟩
theorem and_has {b : B} {k : K} (hb : bok b = true) (hk : keyOk k = true) (hn : k.nodes + 2 ≤ 9) {i : Nat} (h : i < b.mail.length) :
    hasB (searchOf b (kjoin 6 k (khas 1))) ((i : Int) + 1) = (hasB (searchOf b k) ((i : Int) + 1) && hasB (searchOf b (khas 1)) ((i : Int) + 1)) := by
  obtain ⟨s1, s2, s3⟩ := khas_ok (f := 1) rfl
  have hx : keyOk (kjoin 6 k (khas 1)) = true := by
    rw [keyOk_join (.inl rfl), ((keyOk_split k).1 hk).1, s1, s2]; simp; omega
  rw [has_search hb hx h, has_search hb hk h, has_search hb s3 h, found_of (List.getElem?_eq_getElem h), found_of (List.getElem?_eq_getElem h), found_of (List.getElem?_eq_getElem h), finds_and]
theorem or_has {b : B} {k : K} (hb : bok b = true) (hk : keyOk k = true) (hn : k.nodes + 2 ≤ 9) {i : Nat} (h : i < b.mail.length) :
    hasB (searchOf b (kjoin 7 k (khas 1))) ((i : Int) + 1) = (hasB (searchOf b k) ((i : Int) + 1) || hasB (searchOf b (khas 1)) ((i : Int) + 1)) := by
  obtain ⟨s1, s2, s3⟩ := khas_ok (f := 1) rfl
  have hx : keyOk (kjoin 7 k (khas 1)) = true := by
    rw [keyOk_join (.inr rfl), ((keyOk_split k).1 hk).1, s1, s2]; simp; omega
  rw [has_search hb hx h, has_search hb hk h, has_search hb s3 h, found_of (List.getElem?_eq_getElem h), found_of (List.getElem?_eq_getElem h), found_of (List.getElem?_eq_getElem h), finds_or]
theorem and_len {b : B} {k : K} (hb : bok b = true) (hk : keyOk k = true) (c : K) : (searchOf b (kjoin 6 k c)).length ≤ (searchOf b k).length := by
  rcases hx : keyOk (kjoin 6 k c) with _ | _
  · rw [search_no hx]; simp
  · rw [search_yes hb hx, search_yes hb hk]
    have key : ∀ n, n ≤ b.mail.length → (placesTo b (kjoin 6 k c) n).length ≤ (placesTo b k n).length := by
      intro n
      induction n with
      | zero => simp [placesTo]
      | succ n ih =>
        intro h
        have ih := ih (by omega)
        rw [placesTo_succ, placesTo_succ, found_of (List.getElem?_eq_getElem (by omega)), found_of (List.getElem?_eq_getElem (by omega)), finds_and]
        rcases K.finds b n b.mail[n] k with _ | _ <;> rcases K.finds b n b.mail[n] c with _ | _ <;> simp <;> omega
    exact key _ (Nat.le_refl _)
/-- Both keys may be exchanged. -/
theorem join_swap {n : Int} (hn : n = 6 ∨ n = 7) (b : B) (a c : K) : searchOf b (kjoin n a c) = searchOf b (kjoin n c a) := by
  have hk : keyOk (kjoin n a c) = keyOk (kjoin n c a) := by
    rw [keyOk_join hn, keyOk_join hn, Bool.and_comm a.allOk, Nat.add_comm a.nodes]
  unfold searchOf
  rw [hk]
  congr 1
  refine places_same (fun i m _ => ?_) _
  rcases hn with rfl | rfl
  · rw [finds_and, finds_and, Bool.and_comm]
  · rw [finds_or, finds_or, Bool.or_comm]
def kall : K := .mk 0 0 ⟨#[]⟩ [] []
theorem kall_ok : kall.allOk = true ∧ kall.nodes = 1 := by
  have h1 : kall.nodes = 1 := by rw [K.nodes_eq]; simp [kall, K.keys]
  refine ⟨?_, h1⟩
  rw [K.allOk_eq]
  simp [kall, K.keys, nodeOk, nodeB, K.kind, K.flag, K.text, K.set]
  rfl
/-- Not turns and into or. -/
theorem morgan {b : B} {k : K} (hk : keyOk k = true) (hy : keyOk (kjoin 7 (knot k) (knot kall)) = true) :
    searchOf b (knot (kjoin 6 k kall)) = searchOf b (kjoin 7 (knot k) (knot kall)) := by
  obtain ⟨a1, a2⟩ := kall_ok
  have hy2 := hy
  rw [keyOk_join (.inr rfl), nodes_not, nodes_not, a2] at hy2
  simp only [Bool.and_eq_true, decide_eq_true_eq] at hy2
  have hx : keyOk (knot (kjoin 6 k kall)) = true := by
    unfold keyOk
    rw [ok_not, ok_join (.inl rfl), nodes_not, nodes_join, a1, a2, ((keyOk_split k).1 hk).1]
    simp; omega
  unfold searchOf
  rw [hx, hy]
  congr 1
  refine places_same (fun i m _ => ?_) _
  rw [finds_not, finds_and, finds_or, finds_not, finds_not, Bool.not_and]
/-- A flag is found. -/
theorem flag_d : ∀ f, f < 32 → (f &&& 1 == 1) = decide (f / 1 % 2 = 1) ∧ (f &&& 2 == 2) = decide (f / 2 % 2 = 1) ∧ (f &&& 4 == 4) = decide (f / 4 % 2 = 1) ∧ (f &&& 8 == 8) = decide (f / 8 % 2 = 1) ∧ (f &&& 16 == 16) = decide (f / 16 % 2 = 1) := by decide +kernel
theorem flag_have {m : M} (hm : mok m = true) {f : Nat} (hf : f = 1 ∨ f = 2 ∨ f = 4 ∨ f = 8 ∨ f = 16) : haveB m.flags (f : Int) = decide (m.flags.toNat / f % 2 = 1) := by
  have h := (fok_iff _).1 (mok_flags hm)
  obtain ⟨u, fl, t⟩ := m
  obtain ⟨n, rfl⟩ := Int.eq_ofNat_of_zero_le h.1
  dsimp only at h ⊢
  obtain ⟨d1, d2, d3, d4, d5⟩ := flag_d n (by omega)
  rw [haveB_nat (b := f) (by omega) (by omega)]
  rcases hf with rfl | rfl | rfl | rfl | rfl
  · exact d1
  · exact d2
  · exact d3
  · exact d4
  · exact d5
theorem flag_found {b : B} (hb : bok b = true) {f : Nat} (hf : f = 1 ∨ f = 2 ∨ f = 4 ∨ f = 8 ∨ f = 16) {i : Nat} (h : i < b.mail.length) :
    hasB (searchOf b (khas f)) ((i : Int) + 1) = haveB b.mail[i].flags (f : Int) := by
  have hk : flag1 (f : Int) = true := by rcases hf with rfl | rfl | rfl | rfl | rfl <;> rfl
  rw [has_search hb (khas_ok hk).2.2 h, found_of (List.getElem?_eq_getElem h), flag_have (bok_mok hb _ (List.getElem_mem h)) hf, K.finds_eq]
  simp [khas, K.kind, leafFinds, K.flag]
  exact decide_eq_decide.2 Iff.rfl
/-- A text is found. -/
def ktext (t : ByteArray) : K := .mk 2 0 t [] []
theorem ktext_ok {t : ByteArray} (h : nameOk t = true) : (ktext t).allOk = true ∧ (ktext t).nodes = 1 ∧ keyOk (ktext t) = true := by
  have h1 : (ktext t).nodes = 1 := by rw [K.nodes_eq]; simp [ktext, K.keys]
  have h2 : (ktext t).allOk = true := by
    rw [K.allOk_eq]
    simp [ktext, K.keys, nodeOk, nodeB, K.kind, K.flag, K.text, K.set, h]
  exact ⟨h2, h1, by simp [keyOk, h1, h2]⟩
theorem text_found {b : B} (hb : bok b = true) {t : ByteArray} (ht : nameOk t = true) {i : Nat} (h : i < b.mail.length) :
    hasB (searchOf b (ktext t)) ((i : Int) + 1) = partAt b.mail[i].text.data.toList t.data.toList := by
  rw [has_search hb (ktext_ok ht).2.2 h, found_of (List.getElem?_eq_getElem h), K.finds_eq]
  simp [ktext, K.kind, leafFinds, K.text]
/-- The numbers of a set. -/
def numsTo (s : List (Int × Int)) (last : Int) (n : Nat) : List Int := ((List.range n).filter fun i : Nat => setHas s last ((i : Int) + 1)).map fun i : Nat => (i : Int) + 1
def numbersOf (s : List (Int × Int)) (last : Int) : List Int := if setOk s then numsTo s (min last 99) (min last 99).toNat else []
def kset (kind : Int) (s : List (Int × Int)) : K := .mk kind 0 ⟨#[]⟩ s []
theorem kset_ok {n : Int} (hn : n = 3 ∨ n = 4) (s : List (Int × Int)) : keyOk (kset n s) = setOk s := by
  have h1 : (kset n s).nodes = 1 := by rw [K.nodes_eq]; simp [kset, K.keys]
  have hl : setOk s = true → s.length ≠ 0 := by unfold setOk; intro h; simp at h; intro e; simp [e] at h
  unfold keyOk
  rw [K.allOk_eq, h1]
  have he : (⟨#[]⟩ : ByteArray) = ByteArray.empty := rfl
  rcases hn with rfl | rfl <;> simp [kset, K.keys, nodeOk, nodeB, K.kind, K.flag, K.text, K.set, he]
/-- Places are found. -/
theorem place_found {b : B} (hb : bok b = true) {s : List (Int × Int)} (hs : setOk s = true) : searchOf b (kset 3 s) = numbersOf s b.mail.length := by
  have h10 := (bok_next hb).2.2
  rw [search_yes hb (by rw [kset_ok (.inl rfl), hs])]
  have e : min (b.mail.length : Int) 99 = b.mail.length := by omega
  simp only [numbersOf, hs, if_true, e, Int.toNat_natCast]
  unfold placesTo numsTo
  congr 1
  refine List.filter_congr fun i hi => ?_
  have hi : i < b.mail.length := by simpa using hi
  rw [found_of (List.getElem?_eq_getElem hi), K.finds_eq]
  simp [kset, K.kind, leafFinds, K.set]
theorem mem_nums (s : List (Int × Int)) (last : Int) (n : Nat) (p : Int) : p ∈ numsTo s last n ↔ 1 ≤ p ∧ p ≤ n ∧ setHas s last p = true := by
  unfold numsTo
  simp only [List.mem_map, List.mem_filter, List.mem_range]
  constructor
  · rintro ⟨i, ⟨h1, h2⟩, rfl⟩; exact ⟨by omega, by omega, h2⟩
  · rintro ⟨h1, h2, h3⟩
    refine ⟨(p - 1).toNat, ⟨by omega, ?_⟩, by omega⟩
    rw [show (((p - 1).toNat : Nat) : Int) + 1 = p from by omega]; exact h3
theorem lastUid_is {b : B} (hb : bok b = true) (h : 0 < b.mail.length) : 1 ≤ lastUid b ∧ lastUid b ≤ 99 ∧ ∀ i (hi : i < b.mail.length), 1 ≤ b.mail[i].uid ∧ b.mail[i].uid ≤ lastUid b := by
  have hp := (bok_facts hb).2.1
  have hm := bok_mok hb
  have hl : b.mail.getLast? = some (b.mail[b.mail.length - 1]'(by omega)) := by rw [List.getLast?_eq_getElem?, List.getElem?_eq_getElem]
  have he : lastUid b = (b.mail[b.mail.length - 1]'(by omega)).uid := by unfold lastUid; rw [hl]
  have hb2 := mok_uid (hm _ (List.getElem_mem (show b.mail.length - 1 < b.mail.length by omega)))
  rw [he]
  refine ⟨hb2.1, hb2.2, fun i hi => ⟨(mok_uid (hm _ (List.getElem_mem hi))).1, ?_⟩⟩
  by_cases hh : i = b.mail.length - 1
  · subst hh; exact Int.le_refl _
  · exact Int.le_of_lt (List.pairwise_iff_getElem.1 hp i (b.mail.length - 1) hi (by omega) (by omega))
/-- Numbers are found. -/
theorem uid_found {b : B} (hb : bok b = true) (h : 0 < b.mail.length) {s : List (Int × Int)} (hs : setOk s = true) : searchOf b (kset 4 s) = uidsOf b (numbersOf s (lastUid b)) := by
  obtain ⟨l1, l2, hall⟩ := lastUid_is hb h
  rw [search_yes hb (by rw [kset_ok (.inr rfl), hs])]
  have key : ∀ n, n ≤ b.mail.length → placesTo b (kset 4 s) n = uidsTo (numbersOf s (lastUid b)) (b.mail.take n) 0 := by
    intro n
    induction n with
    | zero => simp [placesTo, uidsTo]
    | succ n ih =>
      intro hn
      have hn' : n < b.mail.length := by omega
      obtain ⟨u1, u2⟩ := hall n hn'
      rw [placesTo_succ, uidsTo_take _ hn', ih (by omega)]
      unfold uidStep
      have hx : hasB (numbersOf s (lastUid b)) b.mail[n].uid = found b (kset 4 s) n := by
        rw [found_of (List.getElem?_eq_getElem hn'), K.finds_eq]
        have e : min (lastUid b) 99 = lastUid b := by omega
        have hf : leafFinds b (kset 4 s) n b.mail[n] = setHas s (lastUid b) b.mail[n].uid := by simp [leafFinds, kset, K.kind, K.set]
        rw [if_neg (by simp [kset, K.kind]), if_neg (by simp [kset, K.kind]), if_neg (by simp [kset, K.kind]), hf, Bool.eq_iff_iff, hasB_mem]
        simp only [numbersOf, hs, if_true, e]
        rw [mem_nums]
        constructor
        · rintro ⟨_, _, h3⟩; exact h3
        · intro h3; exact ⟨u1, by omega, h3⟩
      rw [hx]
      split <;> simp
  rw [key _ (Nat.le_refl _), List.take_length]
  simp [uidsOf, hb]
end Go.Proofs.YtlkfaamjbecieaaDoor

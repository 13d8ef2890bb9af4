/- PLAIN LEAN: messages, mailboxes, when they are valid. -/
import Derived.Test.YtpahgjideppmoaaPlain
namespace Go.Proofs.Ytpahgjideppmoaa

structure M where
  uid : Int
  flags : Int
  text : ByteArray
structure B where
  next : Int
  mail : List M

def mok (m : M) : Bool := decide (1 ≤ m.uid) && decide (m.uid ≤ 99) && fok m.flags && decide (m.text.size ≤ 20)
/-- The numbers ascend from a number on; the last one is told. -/
def asc (x : Int) : List M → Option Int
  | [] => some x
  | m :: r => if mok m && decide (x < m.uid) then asc m.uid r else none
def bok (b : B) : Bool :=
  match asc 0 b.mail with
  | none => false
  | some x => decide (b.mail.length ≤ 10) && decide (x < b.next) && decide (b.next ≤ 100)

theorem mok_uid {m : M} (h : mok m = true) : 1 ≤ m.uid ∧ m.uid ≤ 99 := by
  simp [mok] at h; omega
theorem asc_snoc (m : M) : ∀ (l : List M) (x : Int), asc x (l ++ [m]) = (asc x l).bind fun y => if mok m && decide (y < m.uid) then some m.uid else none
  | [], x => by simp [asc]
  | a :: l, x => by
    simp only [List.cons_append, asc]
    split
    · exact asc_snoc m l a.uid
    · rfl
theorem asc_append : ∀ (l r : List M) (x : Int), asc x (l ++ r) = (asc x l).bind fun y => asc y r
  | [], r, x => by simp [asc]
  | a :: l, r, x => by
    simp only [List.cons_append, asc]
    split
    · exact asc_append l r a.uid
    · rfl
theorem asc_bd : ∀ (l : List M) (x y : Int), 0 ≤ x → x ≤ 99 → asc x l = some y → 0 ≤ y ∧ y ≤ 99 ∧ x ≤ y
  | [], x, y, h0, h1, h => by simp [asc] at h; omega
  | m :: l, x, y, h0, h1, h => by
    simp only [asc] at h
    split at h
    · next hm =>
      simp only [Bool.and_eq_true, decide_eq_true_eq] at hm
      have hu := mok_uid hm.1
      have := asc_bd l m.uid y (by omega) hu.2 h
      omega
    · cases h
/-- One more message: yes, no, or no already. -/
theorem take_one {l : List M} {n : Nat} (h : n < l.length) : l.take (n + 1) = l.take n ++ [l[n]] := by
  rw [List.take_succ_eq_append_getElem h]
theorem asc_yes {l : List M} {n : Nat} {x : Int} (h : n < l.length) (hx : asc 0 (l.take n) = some x) (hm : mok l[n] = true) (hu : x < l[n].uid) : asc 0 (l.take (n + 1)) = some l[n].uid := by
  rw [take_one h, asc_snoc, hx]; simp [hm, hu]
theorem asc_no {l : List M} {n : Nat} {x : Int} (h : n < l.length) (hx : asc 0 (l.take n) = some x) (hm : mok l[n] = false ∨ ¬ x < l[n].uid) : asc 0 l = none := by
  have e : l = l.take (n + 1) ++ l.drop (n + 1) := (List.take_append_drop _ _).symm
  rw [e, asc_append, take_one h, asc_snoc, hx]
  rcases hm with hm | hm <;> simp [hm]
theorem bok_none {b : B} (h : asc 0 b.mail = none) : bok b = false := by simp [bok, h]
theorem bok_long {b : B} (h : 10 < b.mail.length) : bok b = false := by
  unfold bok; split
  · rfl
  · simp; omega
theorem bok_some {b : B} {x : Int} (h : asc 0 b.mail = some x) : bok b = (decide (b.mail.length ≤ 10) && decide (x < b.next) && decide (b.next ≤ 100)) := by simp [bok, h]

/-- One message more, if there is space. -/
def addTo (b : B) (f : Int) (t : ByteArray) : B × Bool :=
  if 10 ≤ b.mail.length ∨ 99 < b.next then (b, false) else (⟨b.next + 1, b.mail ++ [⟨b.next, f, t⟩]⟩, true)
def nobox : B := ⟨0, []⟩
def appendTo (b : B) (f : Int) (t : ByteArray) : B × Bool := if bok b && fok f && decide (t.size ≤ 20) then addTo b f t else (nobox, false)
theorem bok_next {b : B} (h : bok b = true) : 1 ≤ b.next ∧ b.next ≤ 100 ∧ b.mail.length ≤ 10 := by
  unfold bok at h
  split at h
  · cases h
  · next x hx =>
    have := asc_bd _ _ _ (by omega) (by omega) hx
    simp at h
    omega
theorem appendTo_no {b : B} {f : Int} {t : ByteArray} (h : bok b = false ∨ fok f = false ∨ ¬ t.size ≤ 20) : appendTo b f t = (nobox, false) := by
  unfold appendTo; rw [if_neg]
  rcases h with h | h | h <;> simp [h]
theorem appendTo_yes {b : B} {f : Int} {t : ByteArray} (h1 : bok b = true) (h2 : fok f = true) (h3 : t.size ≤ 20) : appendTo b f t = addTo b f t := by
  unfold appendTo; rw [if_pos]; simp [h1, h2, h3]
/-- Deleted. -/
def del (m : M) : Bool := decide (m.flags.toNat / 8 % 2 = 1)
/-- What is kept, and the places as they are when each message is removed. -/
def exStep (k : List M × List Int) (m : M) : List M × List Int := if del m then (k.1, k.2 ++ [((k.1.length : Nat) : Int) + 1]) else (k.1 ++ [m], k.2)
def exTo (l : List M) : List M × List Int := l.foldl exStep ([], [])
def expunge (b : B) : B × List Int := if bok b then (⟨b.next, (exTo b.mail).1⟩, (exTo b.mail).2) else (nobox, [])
theorem exTo_snoc (l : List M) (m : M) : exTo (l ++ [m]) = exStep (exTo l) m := by simp [exTo, List.foldl_append]
theorem exFold_len : ∀ (l : List M) (k : List M × List Int), (l.foldl exStep k).1.length + (l.foldl exStep k).2.length = k.1.length + k.2.length + l.length
  | [], k => by simp
  | m :: l, k => by
    rw [List.foldl_cons, exFold_len l (exStep k m), List.length_cons]
    unfold exStep
    split <;> simp <;> omega
theorem exTo_len (l : List M) : (exTo l).1.length + (exTo l).2.length = l.length := by
  have := exFold_len l ([], [])
  simpa [exTo] using this
theorem asc_mok : ∀ (l : List M) (x y : Int), asc x l = some y → ∀ m ∈ l, mok m = true
  | [], x, y, _, m, h => by simp at h
  | a :: l, x, y, h, m, hm => by
    simp only [asc] at h
    split at h
    · next hc =>
      simp only [Bool.and_eq_true] at hc
      rcases List.mem_cons.1 hm with rfl | hm
      · exact hc.1
      · exact asc_mok l a.uid y h m hm
    · cases h
theorem bok_mok {b : B} (h : bok b = true) : ∀ m ∈ b.mail, mok m = true := by
  unfold bok at h
  split at h
  · cases h
  · next x hx => exact asc_mok _ _ _ hx
theorem mok_flags {m : M} (h : mok m = true) : fok m.flags = true := by simp [mok] at h; exact h.1.2
theorem mok_text {m : M} (h : mok m = true) : m.text.size ≤ 20 := by simp [mok] at h; exact h.2
end Go.Proofs.Ytpahgjideppmoaa

/- PLAIN LEAN: rows that are gone through one place after the other: copied, marked. -/
import Derived.Test.YtpahgjideppmoaaMid
namespace Go.Proofs.Ytpahgjideppmoaa
set_option linter.unusedVariables false

/-- The first n places by f, the others as they were. -/
def upd {α : Type} (f : Nat → α → α) (n : Nat) (l : List α) : List α := l.mapIdx fun i x => if i < n then f i x else x
theorem upd_length {α : Type} (f : Nat → α → α) (n : Nat) (l : List α) : (upd f n l).length = l.length := by simp [upd]
theorem upd_get {α : Type} (f : Nat → α → α) (n : Nat) (l : List α) (i : Nat) : (upd f n l)[i]? = (l[i]?).map fun x => if i < n then f i x else x := by simp [upd]
theorem upd_zero {α : Type} (f : Nat → α → α) (l : List α) : upd f 0 l = l := by
  apply List.ext_getElem?; intro i; rw [upd_get]; cases l[i]? <;> simp
theorem upd_set {α : Type} (f : Nat → α → α) (n : Nat) (l : List α) (x : α) (h : l[n]? = some x) : (upd f n l).set n (f n x) = upd f (n + 1) l := by
  apply List.ext_getElem?
  intro i
  have hn : n < (upd f n l).length := by rw [upd_length]; exact (List.getElem?_eq_some_iff.1 h).1
  by_cases hi : i = n
  · subst hi
    rw [List.getElem?_set_self hn, upd_get, h]
    simp
  · rw [List.getElem?_set_ne (by omega), upd_get, upd_get]
    cases l[i]? with
    | none => rfl
    | some y =>
      simp only [Option.map_some]
      by_cases h2 : i < n
      · rw [if_pos h2, if_pos (by omega)]
      · rw [if_neg h2, if_neg (by omega)]
theorem upd_at {α : Type} (f : Nat → α → α) (n : Nat) (l : List α) (x : α) (h : l[n]? = some x) : (upd f n l)[n]? = some x := by
  rw [upd_get, h]; simp
theorem upd_all {α : Type} (f : Nat → α → α) (l : List α) {n : Nat} (h : n = l.length) : upd f n l = l.mapIdx f := by
  apply List.ext_getElem?
  intro i
  rw [upd_get]
  rcases hx : l[i]? with _ | x
  · simp [hx]
  · have : i < n := by rw [h]; exact (List.getElem?_eq_some_iff.1 hx).1
    simp [hx, this]

/-- The digits of a number, and the word that a mark is. -/
def digs (n : Nat) : List UInt8 := if h : n = 0 then [] else digs (n / 10) ++ [UInt8.ofNat (48 + n % 10)]
termination_by n
decreasing_by omega
theorem digs_pos {n : Nat} (h : 0 < n) : digs n = digs (n / 10) ++ [UInt8.ofNat (48 + n % 10)] := by
  rw [digs, dif_neg (by omega)]
def mtx (k : Nat) : ByteArray := ⟨(109 :: digs k).toArray⟩
/-- A message marked from a number on; a row of them. -/
def mkM (k : Nat) : M := ⟨(k : Int), (k : Int) + 1, mtx (k + 2)⟩
def markM (k : Nat) (l : List M) : List M := l.mapIdx fun i _ => mkM (k + i * 3)
theorem markM_length (k : Nat) (l : List M) : (markM k l).length = l.length := by simp [markM]
theorem markM_at (k : Nat) (l : List M) {i : Nat} (h : i < l.length) : (markM k l)[i]? = some (mkM (k + i * 3)) := by
  simp [markM, List.getElem?_eq_getElem h]
def markI (k : Nat) (l : List Int) : List Int := l.mapIdx fun i _ => ((k + i : Nat) : Int)
theorem markI_length (k : Nat) (l : List Int) : (markI k l).length = l.length := by simp [markI]
theorem markI_at (k : Nat) (l : List Int) {i : Nat} (h : i < l.length) : (markI k l)[i]? = some ((k + i : Nat) : Int) := by
  simp [markI, List.getElem?_eq_getElem h]
theorem rowOf_text : ∀ (l : List M) (i : Nat) (m : M), l[i]? = some m → ∀ t, (rowOf l).set (i * 3 + 2) (.string t) = rowOf (l.set i { m with text := t })
  | [], i, m, h, t => by simp at h
  | a :: l, 0, m, h, t => by
    simp only [List.getElem?_cons_zero, Option.some.injEq] at h
    subst h
    rfl
  | a :: l, i + 1, m, h, t => by
    have k0 := rowOf_text l i m (by simpa using h) t
    have e : (i + 1) * 3 = i * 3 + 3 := by omega
    rw [e, show i * 3 + 3 + 2 = i * 3 + 2 + 3 from by omega]
    show List.set (_ :: _ :: _ :: rowOf l) _ _ = _ :: _ :: _ :: rowOf _
    rw [← k0]; rfl
/-- The three cells of a place are written. -/
theorem Own.put3 {w : World} {base g n cap : Nat} {l : List M} (h : Own w base (.slice (some ⟨g, 0, none⟩) n cap) l) (hn : n = l.length) {i : Nat} (hi : i < l.length) (m : M) :
    Own (((w.setCell ⟨g, i * 3, none⟩ (.int .i64 m.uid)).setCell ⟨g, i * 3 + 1, none⟩ (.int .i64 m.flags)).setCell ⟨g, i * 3 + 2, none⟩ (.string m.text)) base (.slice (some ⟨g, 0, none⟩) n cap) (l.set i m) := by
  have e0 := List.getElem?_eq_getElem hi
  generalize l[i] = m0 at e0
  have o1 := h.put hn (l' := l.set i { m0 with uid := m.uid }) (by simp) (j := i * 3) (by omega) (.int .i64 m.uid) ((rowOf_set l i m0 e0).1 m.uid).symm
  have e1 : (l.set i { m0 with uid := m.uid })[i]? = some { m0 with uid := m.uid } := by rw [List.getElem?_set_self hi]
  have o2 := o1.put (l' := l.set i { m0 with uid := m.uid, flags := m.flags }) (by simpa using hn) (by simp) (j := i * 3 + 1) (by simp; omega) (.int .i64 m.flags) (by rw [(rowOf_set _ i _ e1).2 m.flags, List.set_set])
  have e2 : (l.set i { m0 with uid := m.uid, flags := m.flags })[i]? = some { m0 with uid := m.uid, flags := m.flags } := by rw [List.getElem?_set_self hi]
  have o3 := o2.put (l' := l.set i m) (by simpa using hn) (by simp) (j := i * 3 + 2) (by simp; omega) (.string m.text) (by rw [rowOf_text _ i _ e2 m.text, List.set_set])
  exact o3
/-- What an owned row's place holds. -/
theorem Own.cells3 {w : World} {base g n cap : Nat} {l : List M} (h : Own w base (.slice (some ⟨g, 0, none⟩) n cap) l) {i : Nat} {m : M} (hi : l[i]? = some m) :
    w.cell? ⟨g, i * 3, none⟩ = some (.int .i64 m.uid) ∧ w.cell? ⟨g, i * 3 + 1, none⟩ = some (.int .i64 m.flags) ∧ w.cell? ⟨g, i * 3 + 2, none⟩ = some (.string m.text) ∧
      w.frozen? ⟨g, i * 3, none⟩ = false ∧ w.frozen? ⟨g, i * 3 + 1, none⟩ = false ∧ w.frozen? ⟨g, i * 3 + 2, none⟩ = false := by
  obtain ⟨k0, k1, k2⟩ := rowOf_at l i _ hi
  have c0 := World.ownsRow.cells h rfl _ _ k0
  have c1 := World.ownsRow.cells h rfl _ _ k1
  have c2 := World.ownsRow.cells h rfl _ _ k2
  simp only [add_at, Nat.zero_add] at c0 c1 c2
  refine ⟨c0, c1, c2, ?_⟩
  rcases h.2 with ⟨h2, _⟩ | ⟨g', cap', cur, h2, hb, hh, _⟩
  · cases h2
  · cases h2
    simp [World.frozen?, hh]
theorem own_block {w : World} {base g n cap : Nat} {l : List M} (h : Own w base (.slice (some ⟨g, 0, none⟩) n cap) l) : base ≤ g ∧ g < w.heap.size := by
  rcases h.2 with ⟨h2, _⟩ | ⟨g', cap', cur, h2, hb, hh, _⟩
  · cases h2
  · cases h2; exact ⟨hb, lt_of_block hh⟩
end Go.Proofs.Ytpahgjideppmoaa

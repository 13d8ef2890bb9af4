/- A MAILBOX IN A VARIABLE of the call: its block, its row. -/
import Derived.Test.YtpahgjideppmoaaDraws
import Derived.Test.YtpahgjideppmoaaSame
import Derived.Test.YtpahgjideppmoaaBoxApp
import Derived.Test.YtpahgjideppmoaaBoxLaws
import Derived.Deep.RegionHeld3
import Derived.Deep.DeepCutAuto
namespace Go.Proofs.Ytpahgjideppmoaa
open Go.RowKit
set_option linter.unusedVariables false

structure BoxCell (w : World) (k base : Nat) (b : B) (a : Option Addr) (cap : Nat) : Prop where
  block : w.heap[k]? = some (.cells #[.int .i64 b.next, .slice a b.mail.length cap] 29 (0, 0))
  own : Own w base (.slice a b.mail.length cap) b.mail
  len : b.mail.length ≤ 4398046511104
theorem BoxCell.below {w w' : World} {k base : Nat} {b : B} {a : Option Addr} {cap : Nat} (h : BoxCell w k base b a cap) (hb : Below w.heap.size w w') : BoxCell w' k base b a cap :=
  ⟨(hb.block _ (lt_of_block h.block)).trans h.block, h.own.below hb, h.len⟩
theorem BoxCell.cells {w : World} {k base : Nat} {b : B} {a : Option Addr} {cap : Nat} (h : BoxCell w k base b a cap) :
    w.cell? ⟨k, 0, none⟩ = some (.int .i64 b.next) ∧ w.cell? ⟨k, 1, none⟩ = some (.slice a b.mail.length cap) ∧ w.frozen? ⟨k, 0, none⟩ = false ∧ w.frozen? ⟨k, 1, none⟩ = false := two_cells h.block
theorem BoxCell.lt {w : World} {k base : Nat} {b : B} {a : Option Addr} {cap : Nat} (h : BoxCell w k base b a cap) : k < w.heap.size := lt_of_block h.block
theorem BoxCell.mail {w : World} {k base : Nat} {b : B} {a : Option Addr} {cap : Nat} (h : BoxCell w k base b a cap) : MailAt w (.slice a b.mail.length cap) b.mail := h.own.mail h.len
theorem BoxCell.box {w : World} {k base : Nat} {b : B} {a : Option Addr} {cap : Nat} (h : BoxCell w k base b a cap) : BoxAt w (.agg #[.int .i64 b.next, .slice a b.mail.length cap]) b := ⟨_, rfl, h.mail⟩
theorem new_box {w : World} {base : Nat} {b : B} {a : Option Addr} {cap : Nat} (h : Own w base (.slice a b.mail.length cap) b.mail) (hl : b.mail.length ≤ 4398046511104) :
    ∃ wy, wy = w.alloc (.cells #[.int .i64 b.next, .slice a b.mail.length cap] 29) ∧ BoxCell wy w.heap.size base b a cap ∧ Below w.heap.size w wy ∧ wy.heap.size = w.heap.size + 1 :=
  ⟨_, rfl, ⟨heap_alloc_new w _, h.alloc _, hl⟩, (Below.refl _ _).alloc (Nat.le_refl _) _, by simp⟩
theorem appendTo_len (b : B) (f : Int) (t : ByteArray) (h : b.mail.length ≤ 10) : (appendTo b f t).1.mail.length ≤ 11 := by
  unfold appendTo
  split
  · unfold addTo; split <;> simp <;> omega
  · simp [nobox]
theorem MailAt.take {w : World} {a : Option Addr} {L cap : Nat} {l : List M} (h : MailAt w (.slice a L cap) l) {k : Nat} (hk : k ≤ L) : MailAt w (.slice a k cap) (l.take k) := by
  obtain ⟨a', n, cap', he, hn, hc, hm, h⟩ := h
  cases he
  refine ⟨a, k, cap, rfl, by simp; omega, by omega, ⟨by omega, hm.2⟩, ?_⟩
  rcases h with h | ⟨b, off, ha, hlt, h⟩
  · exact .inl (by omega)
  · refine .inr ⟨b, off, ha, hlt, fun i m hi => h i m ?_⟩
    by_cases hik : i < k
    · rwa [List.getElem?_take_of_lt hik] at hi
    · rw [List.getElem?_take_eq_none (by omega)] at hi; cases hi
theorem MailAt.drop {w : World} {g L cap : Nat} {l : List M} (h : MailAt w (.slice (some ⟨g, 0, none⟩) L cap) l) {k : Nat} (hk : k ≤ L) : MailAt w (.slice (some ⟨g, k * 3, none⟩) (L - k) (cap - k)) (l.drop k) := by
  obtain ⟨a', n, cap', he, hn, hc, hm, h⟩ := h
  cases he
  refine ⟨_, L - k, cap - k, rfl, by simp; omega, by omega, ⟨by omega, fun e => by cases e⟩, ?_⟩
  rcases h with h | ⟨b, off, ha, hlt, h⟩
  · exact .inl (by omega)
  · cases ha
    refine .inr ⟨g, k * 3, rfl, hlt, fun i m hi => ?_⟩
    rw [List.getElem?_drop] at hi
    have := h (k + i) m hi
    rw [show 0 + (k + i) * 3 = k * 3 + i * 3 from by omega] at this
    exact this
theorem BoxCell.caps {w : World} {k base : Nat} {b : B} {a : Option Addr} {cap : Nat} (h : BoxCell w k base b a cap) : b.mail.length ≤ cap := by
  obtain ⟨a', n, cap', he, hn, hc, hm, h⟩ := h.mail
  cases he; exact hc
end Go.Proofs.Ytpahgjideppmoaa

/- WALKS: the size of a mailbox that comes in, and its bound. -/
import Derived.Test.YtpahgjideppmoaaExTo
namespace Go.Proofs.Ytpahgjideppmoaa
open Go.RowKit
set_option linter.unusedVariables false

def SomeLe (B : Int) (w : World) (e : Ending) (w' : World) : Prop := ∃ n : Int, e = .returned (.int .i64 n) ∧ n ≤ B ∧ Below w.heap.size w w'
theorem szMail_le (m : M) (left : Int) (w : World) (ht : m.text.size ≤ maxLen) (h0 : 0 ≤ left) (h1 : left ≤ 1048576) : Calls Try.prog 34 #[.agg #[.int .i64 m.uid, .int .i64 m.flags, .string m.text], .int .i64 left] w (SomeLe left w) := by
  obtain ⟨u, f, s⟩ := m
  dsimp only at ht ⊢
  unfold maxLen at ht
  go_enter Try.func34, Try.ntmps34
  go_wp2_with fail
  all_goals go_ret
  all_goals exact ⟨_, rfl, by omega, by go_grown⟩
set_option maxHeartbeats 400000 in
theorem szMailS_le (l : List M) (v : Value) (left : Int) (w : World) (h : MailAt w v l) (h0 : 0 ≤ left) (h1 : left ≤ 1048576) (hl : l.length ≤ 1048576) (ht : ∀ m ∈ l, m.text.size ≤ maxLen) :
    Calls Try.prog 18 #[v, .int .i64 left] w (SomeLe left w) := by
  obtain ⟨a, L, cap, rfl, hL, hc, _, hmail⟩ := h
  have HL := Lib.hid hL; have HTX := Lib.hid ht
  have hL1 : L ≤ 1048576 := by omega
  clear hL hl ht
  go_enter Try.func18, Try.ntmps18
  by_cases hneg : left - (L : Int) < 0
  · go_wp2_with fail
    go_ret
    exact ⟨_, rfl, by omega, by go_grown⟩
  · go_wp2_with fail
    go_loopw [1, 5] (fun lf i wr => ∃ (n : Nat) (x : Int), n ≤ L ∧ i = .int .i64 n ∧ lf = .int .i64 x ∧ 0 ≤ x ∧ x ≤ left ∧ Below w.heap.size w wr) (fun _ i _ => L - (intOf i).toNat)
    case atStart => exact ⟨0, _, by omega, rfl, rfl, by omega, by omega, Below.refl _ _⟩
    case round =>
      obtain ⟨n, x, hn, rfl, rfl, hx0, hx1, hq⟩ := hrel
      clear hneg
      by_cases hlt : n < L
      · rcases hmail with h0 | ⟨g, off, rfl, hg, hcells⟩
        · omega
        have hlt' : n < l.length := by rw [HL.out]; exact hlt
        have hm := List.getElem?_eq_getElem hlt'
        have htm := HTX.out _ (List.getElem_mem hlt')
        generalize l[n] = m at hm htm
        obtain ⟨c0, c1, c2⟩ := hcells n _ hm
        replace c0 := (hq.cell (p := ⟨g, _, none⟩) hg).trans c0
        replace c1 := (hq.cell (p := ⟨g, _, none⟩) hg).trans c1
        replace c2 := (hq.cell (p := ⟨g, _, none⟩) hg).trans c2
        clear hcells hm
        go_wp2_with fail
        refine (szMail_le m x _ htm hx0 (by omega)).mono ?_
        rintro e w2 ⟨y, rfl, hy, q2⟩
        have q3 := hq.trans (q2.mono hq.size)
        clear c0 c1 c2 q2
        go_wp2_with fail
        · go_ret
          exact ⟨_, rfl, by omega, q3⟩
        · go_roundw
          case rel => exact ⟨n + 1, y, by omega, by go_num, rfl, by omega, by omega, q3⟩
          case measure => simp [intOf]; omega
      · clear hmail
        go_wp2_with fail
        go_ret
        exact ⟨_, rfl, hx1, hq⟩
theorem szBox_le (b : B) (v : Value) (left : Int) (w : World) (h : BoxAt w v b) (h0 : 0 ≤ left) (h1 : left ≤ 1048576) (hl : b.mail.length ≤ 1048576) (ht : ∀ m ∈ b.mail, m.text.size ≤ maxLen) :
    Calls Try.prog 5 #[v, .int .i64 left] w (SomeLe left w) := by
  obtain ⟨s, rfl, k1⟩ := h
  have e1 := k1
  obtain ⟨a1, L, cap1, rfl, hL, hc1, _, hmail1⟩ := e1
  have K1 := Lib.hid k1; have HTX := Lib.hid ht
  clear hL hmail1 k1 ht
  go_enter Try.func5, Try.ntmps5
  go_wp2_with fail
  refine (szMailS_le b.mail _ left _ (K1.out.below (by go_grown)) h0 h1 hl HTX.out).mono ?_
  rintro e w2 ⟨y, rfl, hy, q2⟩
  have q3 : Below w.heap.size w w2 := Below.trans (by go_grown) (q2.mono (by simp))
  clear q2
  go_wp2_with fail
  all_goals go_ret
  all_goals exact ⟨_, rfl, by omega, q3⟩
end Go.Proofs.Ytpahgjideppmoaa

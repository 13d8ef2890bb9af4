/- WALKS: the law of the messages' order. -/
import Derived.Test.YtdnogbneajloeaaBoxCell
import Derived.Deep.QuietTactic
import Derived.BigQuiet
import Derived.IntWalk
namespace Go.Proofs.Ytdnogbneajloeaa
open Go.RowKit
set_option linter.unusedVariables false

set_option maxHeartbeats 1000000 in
theorem fnBoxOrder.walk (a : Option Addr) (len cap : Nat) (hl : len ≤ cap) (hm : cap ≤ maxLen) (w : World) (hc : CodeAt w a len) :
    Calls Try.prog 6 #[.slice a len cap] w fun e w' => e = .returned (.bool true) ∧ Below w.heap.size w w' := by
  unfold maxLen at hm
  by_cases h1 : 1048576 < len
  · go_enter Try.func6, Try.ntmps6
    go_wp2_with fail
    all_goals go_ret
    all_goals exact ⟨rfl, Below.refl _ _⟩
  go_enter Try.func6, Try.ntmps6
  go_wp2_with fail
  refine (DrawBoxValid_any a len cap hl w hc).mono ?_
  clear hc
  rintro e w1 ⟨b, a1, cap1, rfl, hb, b1⟩
  have hl10 := hb.1.2.2
  obtain ⟨wx, hwx, X, qx, sx⟩ := new_box hb.2 (by omega)
  have bel := b1.trans (qx.mono b1.size)
  have s1 := b1.size
  have HW := Lib.hid hwx
  clear hwx hb b1 qx
  go_wp2_with fail
  rw [← HW.out]
  refine (implBoxValid_any b _ _ X.box).mono ?_
  rintro e w2 ⟨rfl, q2⟩
  replace X := X.below q2
  replace bel := bel.trans (q2.mono bel.size)
  clear HW q2
  obtain ⟨c0, c1, f0, f1⟩ := X.cells
  go_wp2_with fail
  refine (specBoxValid_any b _ _ X.box).mono ?_
  rintro e w3 ⟨rfl, q3⟩
  replace X := X.below q3
  replace bel := bel.trans (q3.mono bel.size)
  clear q3 c0 c1 f0 f1
  rcases hbk : bok b with _ | _
  · go_wp2_with fail
    go_ret
    exact ⟨rfl, bel⟩
  · obtain ⟨p1, p2, p3, p4, p5, p6⟩ := bok_facts hbk
    have P2 := Lib.hid p2; have P3 := Lib.hid p3
    have HX := Lib.hid X
    obtain ⟨a', n', c', he, hn', hcc, _, hmail⟩ := X.mail
    cases he
    have HMAIL := Lib.hid hmail
    clear X p1 p2 p3 hbk hmail hn'
    go_wp2_with fail
    go_loopw [6] (fun i wr => ∃ n : Nat, n ≤ b.mail.length ∧ i = .int .i64 n ∧ Below w3.heap.size w3 wr) (fun i _ => b.mail.length - (intOf i).toNat)
    case atStart => exact ⟨0, by omega, rfl, Below.refl _ _⟩
    case round =>
      obtain ⟨n, hn, rfl, hq⟩ := hrel
      obtain ⟨c0, c1, f0, f1⟩ := (HX.out.below hq).cells
      by_cases hlt : n < b.mail.length
      · rcases HMAIL.out with h0 | ⟨gm, off, rfl, hg, hcells⟩
        · exfalso; omega
        have hmm := List.getElem?_eq_getElem hlt
        have hm3 := P3.out _ (List.getElem_mem hlt)
        have hnI : (n : Int) < (b.mail.length : Int) := by omega
        rcases n with _ | p
        · generalize b.mail[0] = m at hmm hm3
          obtain ⟨d0, _, _⟩ := hcells 0 _ hmm
          have d0 := (hq.cell (p := ⟨gm, _, none⟩) hg).trans d0
          rw [Nat.zero_mul, Nat.add_zero] at d0
          have hd : decide (b.next ≤ m.uid) = false := by simpa using hm3
          have e0 : ((0 : Nat) : Int) = 0 := rfl
          rw [e0] at hnI ⊢
          clear hmm hcells e0
          go_wp2_with fail
          go_quiet (fail)
          go_wp2_with fail
          go_roundw
          case rel => exact ⟨1, by omega, by go_num, below_drewN hq _⟩
          case measure => simp [intOf]; omega
        · have hlt2 : p < b.mail.length := by omega
          have hmp := List.getElem?_eq_getElem hlt2
          have hpp : b.mail[p].uid < b.mail[p + 1].uid := List.pairwise_iff_getElem.1 P2.out p (p + 1) hlt2 hlt (by omega)
          generalize b.mail[p + 1] = m at hmm hm3 hpp
          generalize b.mail[p] = m' at hmp hpp
          obtain ⟨d0, _, _⟩ := hcells (p + 1) _ hmm
          obtain ⟨d1, _, _⟩ := hcells p _ hmp
          have d0 := (hq.cell (p := ⟨gm, _, none⟩) hg).trans d0
          have d1 := (hq.cell (p := ⟨gm, _, none⟩) hg).trans d1
          have hd : decide (b.next ≤ m.uid) = false := by simpa using hm3
          have hd2 : decide (m.uid ≤ m'.uid) = false := by simpa using hpp
          have x1 : IntKind.i64.wrap (p : Int) = (p : Int) := IntWalk.i64_in _ (by omega)
          have x2 : (p : Int) < (b.mail.length : Int) := by omega
          have x3 : (0 : Int) < (p : Int) + 1 := by omega
          clear hmm hmp hcells
          go_wp2_with fail
          go_quiet (fail)
          go_wp2_with fail
          go_roundw
          case rel => exact ⟨p + 2, by omega, by go_num, below_drewN hq _⟩
          case measure => simp [intOf]; omega
      · have hnn : n = b.mail.length := by omega
        have HNN := Lib.hid hnn
        clear hnn
        go_wp2_with fail
        go_ret
        exact ⟨ret_bool (by simp; omega), bel.trans (hq.mono bel.size)⟩
end Go.Proofs.Ytdnogbneajloeaa

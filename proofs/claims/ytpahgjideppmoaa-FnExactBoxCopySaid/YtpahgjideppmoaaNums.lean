/- WALKS: whether numbers are those of messages, in ascending order. -/
import Derived.Test.YtpahgjideppmoaaUids
import Derived.IntWalk
namespace Go.Proofs.Ytpahgjideppmoaa
open Go.RowKit
set_option linter.unusedVariables false

theorem quiet_left {P : Program} {f : FuncId} {args : Array Value} {w : World} {n : Nat} {v : Value}
    (h : Calls P f args (w.drewN n) fun e w' => e = .returned v ∧ w.drewN n = w') : Calls P f args (w.drewN n) fun e w'' => e = .returned v ∧ ∃ m, w'' = w.drewN m :=
  h.mono fun _ _ ⟨he, hm⟩ => ⟨he, n, hm.symm⟩
theorem getLast_take {l : List Int} {n : Nat} (h : n < l.length) : (l.take (n + 1)).getLast?.getD 0 = l[n] := by
  rw [List.take_succ_eq_append_getElem h, List.getLast?_concat]; rfl
set_option maxHeartbeats 400000 in
theorem placesValid_any (l : List Int) (c : Nat) (v : Value) (w : World) (h : IntsAt w v l) (hc : c ≤ 1000000) :
    Calls Try.prog 23 #[v, .int .i64 c] w fun e w' => e = .returned (.bool (numsOk c l)) ∧ w = w' := by
  obtain ⟨a, L, cap, rfl, hL, hcap, ⟨hm, _⟩, hmail⟩ := h
  have HL := Lib.hid hL
  clear hL
  go_enter Try.func23, Try.ntmps23
  go_wp2_with fail
  go_loop [5, 10] (fun x i => ∃ (n : Nat) (y : Int), n ≤ L ∧ i = .int .i64 n ∧ x = .int .i64 y ∧ Hid (ascN 0 (c : Int) (l.take n) = true) ∧ Hid ((l.take n).getLast?.getD 0 = y)) (fun _ i => L - (intOf i).toNat)
  case atStart => exact ⟨0, 0, by omega, rfl, rfl, rfl, rfl⟩
  case round =>
    obtain ⟨n, y, hnL, rfl, rfl, HA, HY⟩ := hrel
    by_cases hlt : n < L
    · rcases hmail with h0 | ⟨g, off, rfl, hg, hcells⟩
      · omega
      have hlt' : n < l.length := by rw [HL.out]; exact hlt
      have c0 := hcells n _ (List.getElem?_eq_getElem hlt')
      have hnI : (n : Int) < (L : Int) := by omega
      have hyes := ascN_yes (c := (c : Int)) hlt' HA.out HY.out
      have hno := ascN_no (c := (c : Int)) hlt' HY.out
      generalize l[n] = p at c0 hyes hno
      have YES := Lib.hid hyes; have NO := Lib.hid hno
      clear hcells hyes hno
      by_cases h1 : y < p
      · by_cases h2 : p ≤ (c : Int)
        · obtain ⟨k1, k2⟩ := YES.out h1 h2
          have K1 := Lib.hid k1; have K2 := Lib.hid k2
          clear k1 k2
          go_wp2_with fail
          go_round
          case rel => exact ⟨n + 1, p, by omega, by go_num, rfl, K1.out, K2.out⟩
          case measure => simp [intOf]; omega
        · have hr := NO.out (.inr h2)
          have HR := Lib.hid hr
          clear hr
          go_wp2_with fail
          go_ret
          exact ⟨ret_bool HR.out.symm, rfl⟩
      · have hr := NO.out (.inl h1)
        have HR := Lib.hid hr
        clear hr
        go_wp2_with fail
        go_ret
        exact ⟨ret_bool HR.out.symm, rfl⟩
    · have : n = L := by omega
      subst this
      have hA : ascN 0 (c : Int) l = true := by rw [← HA.out, ← HL.out, List.take_length]
      have HA2 := Lib.hid hA
      clear hmail hA
      go_wp2_with fail
      go_ret
      exact ⟨ret_bool HA2.out.symm, rfl⟩
set_option maxHeartbeats 1000000 in
theorem l11Numbers_any (b : B) (l : List Int) (v vl : Value) (w : World) (hb : BoxAt w v b) (h : IntsAt w vl l) (hc : b.mail.length ≤ 1000000) :
    Calls Try.prog 19 #[v, vl] w fun e w' => e = .returned (.bool (numsOk b.mail.length l)) ∧ Below w.heap.size w w' := by
  obtain ⟨s, rfl, am, c, capm, rfl, hcl, _, _, _⟩ := hb
  obtain ⟨a, L, cap, rfl, hL, hcap, ⟨hm, _⟩, hmail⟩ := h
  rw [hcl] at hc ⊢
  have HL := Lib.hid hL
  obtain ⟨w1, hw1⟩ : ∃ w1, w1 = w.alloc (.cells #[.int .i64 b.next, .slice am c capm] 29) := ⟨_, rfl⟩
  have bel : Below w.heap.size w w1 := by rw [hw1]; exact (Below.refl _ _).alloc (Nat.le_refl _) _
  have z1 : w1.heap[w.heap.size]? = some (.cells #[.int .i64 b.next, .slice am c capm] 29 (0, 0)) := by rw [hw1]; exact heap_alloc_new w _
  have HW := Lib.hid hw1; have Z1 := Lib.hid z1
  clear hL hcl hw1 z1
  go_enter Try.func19, Try.ntmps19
  go_wp2_with fail
  rw [← HW.out]
  go_loopw [5] (fun i wr => ∃ (n : Nat), n ≤ L ∧ i = .int .i64 n ∧ Hid (ascN 0 (c : Int) (l.take n) = true) ∧ Below w1.heap.size w1 wr) (fun i _ => L - (intOf i).toNat)
  case atStart => exact ⟨0, by omega, rfl, rfl, Below.refl _ _⟩
  case round =>
    obtain ⟨n, hnL, rfl, HA, hq⟩ := hrel
    obtain ⟨b0, b1, f0, f1⟩ := two_cells ((hq.block _ (lt_of_block Z1.out)).trans Z1.out)
    have hqq := bel.trans (hq.mono bel.size)
    by_cases hlt : n < L
    · rcases hmail with h0 | ⟨g, off, rfl, hg, hcells⟩
      · omega
      have hlt' : n < l.length := by rw [HL.out]; exact hlt
      have c0 := (hqq.cell (p := ⟨g, _, none⟩) hg).trans (hcells n _ (List.getElem?_eq_getElem hlt'))
      have hnI : (n : Int) < (L : Int) := by omega
      have hyes := fun (y : Int) (hy : (l.take n).getLast?.getD 0 = y) => ascN_yes (c := (c : Int)) hlt' HA.out hy
      have hno := fun (y : Int) (hy : (l.take n).getLast?.getD 0 = y) => ascN_no (c := (c : Int)) hlt' hy
      have hpos : ∀ y, (l.take n).getLast?.getD 0 = y → 0 ≤ y := by
        intro y hy
        rcases n with _ | p
        · simp at hy; omega
        · rw [getLast_take (by omega)] at hy
          have := ascN_mem _ _ _ HA.out y (by rw [← hy, List.mem_take_iff_getElem]; exact ⟨p, by omega, rfl⟩)
          omega
      have HPOS := Lib.hid hpos
      rcases n with _ | p
      · generalize l[0] = x at c0 hyes hno
        have YES := Lib.hid (hyes 0 rfl); have NO := Lib.hid (hno 0 rfl)
        rw [Nat.add_zero] at c0
        have e0 : ((0 : Nat) : Int) = 0 := rfl
        rw [e0] at hnI ⊢
        clear hcells hyes hno hpos HPOS e0
        rcases hb : (decide ((1 : Int) ≤ x) && decide (x ≤ (c : Int))) with _ | _
        · have hr := NO.out (by simp at hb; omega)
          have HR := Lib.hid hr
          have hC := Lib.hid (fun W : World => (by have := l6In_any x 1 (c : Int) W; rwa [hb] at this : Calls Try.prog 33 #[.int .i64 x, .int .i64 1, .int .i64 (c : Int)] W fun e w' => e = .returned (.bool false) ∧ W = w'))
          clear hr YES NO hb
          go_wp2_with fail
          go_quiet ((go_at_call 33; exact quiet_left (hC.out _)))
          go_wp2_with fail
          all_goals go_ret
          all_goals exact ⟨ret_bool HR.out.symm, below_drewN hqq _⟩
        · obtain ⟨k1, k2⟩ := YES.out (by simp at hb; omega) (by simp at hb; omega)
          have K1 := Lib.hid k1
          have hC := Lib.hid (fun W : World => (by have := l6In_any x 1 (c : Int) W; rwa [hb] at this : Calls Try.prog 33 #[.int .i64 x, .int .i64 1, .int .i64 (c : Int)] W fun e w' => e = .returned (.bool true) ∧ W = w'))
          clear k1 k2 YES NO hb
          go_wp2_with fail
          go_quiet ((go_at_call 33; exact quiet_left (hC.out _)))
          go_wp2_with fail
          go_roundw
          case rel => exact ⟨1, by omega, by go_num, K1.out, below_drewN hq _⟩
          case measure => simp [intOf]; omega
      · have hy := getLast_take (show p < l.length by omega)
        have c1 := (hqq.cell (p := ⟨g, _, none⟩) hg).trans (hcells p _ (List.getElem?_eq_getElem (by omega)))
        have YES := hyes _ hy; have NO := hno _ hy; have PO := hpos _ hy
        generalize l[p + 1] = x at c0 YES NO
        generalize l[p] = y at c1 YES NO PO
        replace YES := Lib.hid YES; replace NO := Lib.hid NO
        have x1 : IntKind.i64.wrap (p : Int) = (p : Int) := IntWalk.i64_in _ (by omega)
        have x2 : (p : Int) < (L : Int) := by omega
        have x3 : (0 : Int) < (p : Int) + 1 := by omega
        clear hcells hyes hno hpos HPOS hy
        rcases hb : (decide ((1 : Int) ≤ x) && decide (x ≤ (c : Int))) with _ | _
        · have hr := NO.out (by simp at hb; omega)
          have HR := Lib.hid hr
          have hC := Lib.hid (fun W : World => (by have := l6In_any x 1 (c : Int) W; rwa [hb] at this : Calls Try.prog 33 #[.int .i64 x, .int .i64 1, .int .i64 (c : Int)] W fun e w' => e = .returned (.bool false) ∧ W = w'))
          clear hr YES NO hb
          go_wp2_with fail
          go_quiet ((go_at_call 33; exact quiet_left (hC.out _)))
          go_wp2_with fail
          all_goals go_ret
          all_goals exact ⟨ret_bool HR.out.symm, below_drewN hqq _⟩
        · have hC := Lib.hid (fun W : World => (by have := l6In_any x 1 (c : Int) W; rwa [hb] at this : Calls Try.prog 33 #[.int .i64 x, .int .i64 1, .int .i64 (c : Int)] W fun e w' => e = .returned (.bool true) ∧ W = w'))
          by_cases hyx : y < x
          · obtain ⟨k1, k2⟩ := YES.out hyx (by simp at hb; omega)
            have K1 := Lib.hid k1
            have hd : decide (x ≤ y) = false := by simpa using hyx
            clear k1 k2 YES NO hb
            go_wp2_with fail
            go_quiet ((go_at_call 33; exact quiet_left (hC.out _)))
            go_wp2_with fail
            go_roundw
            case rel => exact ⟨p + 2, by omega, by go_num, K1.out, below_drewN hq _⟩
            case measure => simp [intOf]; omega
          · have hr := NO.out (.inl hyx)
            have HR := Lib.hid hr
            have hd : x ≤ y := by omega
            clear hr YES NO hb hyx
            go_wp2_with fail
            go_quiet ((go_at_call 33; exact quiet_left (hC.out _)))
            go_wp2_with fail
            all_goals go_ret
            all_goals exact ⟨ret_bool HR.out.symm, below_drewN hqq _⟩
    · have : n = L := by omega
      subst this
      have hA : ascN 0 (c : Int) l = true := by rw [← HA.out, ← HL.out, List.take_length]
      have HA2 := Lib.hid hA
      clear hmail hA
      go_wp2_with fail
      go_ret
      exact ⟨ret_bool HA2.out.symm, hqq⟩
end Go.Proofs.Ytpahgjideppmoaa

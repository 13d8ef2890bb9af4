/- WALKS: sets and plain keys in the program. -/
import Derived.Test.YtgcdopmidmelfaaDoorKLeaf
namespace Go.Proofs.YtgcdopmidmelfaaDoor
open Go.RowKit
set_option linter.unusedVariables false

def numOk (n : Int) : Bool := decide (0 ≤ n) && decide (n ≤ 99)
theorem setNumberValid_any (n : Int) (w : World) : Calls Tryd.prog 46 #[.int .i64 n] w fun e w' => e = .returned (.bool (numOk n)) ∧ w = w' := by
  have hk : numOk n = (decide (0 ≤ n) && decide (n ≤ 99)) := rfl
  have HK := Lib.hid hk
  clear hk
  by_cases h0 : 0 ≤ n
  · go_enter Tryd.func46, Tryd.ntmps46
    go_wp2_with fail
    all_goals go_ret
    all_goals exact ⟨ret_bool (by rw [HK.out]; simp [h0]), rfl⟩
  · go_enter Tryd.func46, Tryd.ntmps46
    go_wp2_with fail
    go_ret
    exact ⟨ret_bool (by rw [HK.out]; simp; omega), rfl⟩
set_option maxHeartbeats 400000 in
theorem implSetValid_any (l : List (Int × Int)) (v : Value) (S : Nat → Prop) (w : World) (h : SetAt w S v l) (hN : Ins S w) :
    Calls Tryd.prog 36 #[v] w fun e w' => e = .returned (.bool (setOk l)) ∧ Below w.heap.size w w' := by
  obtain ⟨a, L, cap, rfl, hL, hcap, ⟨hmax, _⟩, hmail⟩ := h
  have HL := Lib.hid hL
  by_cases hin : 1 ≤ L ∧ L ≤ 6
  · obtain ⟨hi1, hi2⟩ := hin
    clear hL
    go_enter Tryd.func36, Tryd.ntmps36
    go_wp2_with fail
    go_loopw [15] (fun i wr => ∃ n : Nat, n ≤ L ∧ i = .int .i64 n ∧ Hid ((l.take n).all spanOk = true) ∧ Below w.heap.size w wr) (fun i _ => L - (intOf i).toNat)
    case atStart => exact ⟨0, by omega, rfl, (by show _ = _; simp), Below.refl _ _⟩
    case round =>
      obtain ⟨n, hn, rfl, HA, hq⟩ := hrel
      by_cases hlt : n < L
      · rcases hmail with h0 | ⟨g, off, rfl, hg, hcells⟩
        · omega
        have hlt' : n < l.length := by rw [HL.out]; exact hlt
        have hyes := all_take_yes spanOk hlt' HA.out
        have hno := all_take_no spanOk hlt'
        have hm := List.getElem?_eq_getElem hlt'
        generalize l[n] = s at hm hyes hno
        obtain ⟨c0, c1⟩ := hcells n _ hm
        obtain ⟨x, y⟩ := s
        dsimp only at c0 c1
        replace c0 := (hq.cell (p := ⟨g, _, none⟩) (hN.lt hg)).trans c0
        replace c1 := (hq.cell (p := ⟨g, _, none⟩) (hN.lt hg)).trans c1
        have hnI : (n : Int) < (L : Int) := by omega
        have hsp : spanOk (x, y) = (numOk x && numOk y) := by simp [spanOk, numOk, Bool.and_assoc]
        rw [hsp] at hyes hno
        have HY := Lib.hid hyes; have HN := Lib.hid hno
        clear hcells hm hyes hno hsp
        rcases hx : numOk x with _ | _
        · have hr : setOk l = false := by
            have := HN.out (by simp [hx])
            simp [setOk, this]
          have HR := Lib.hid hr
          clear hr
          go_wp2_with fail
          refine (setNumberValid_any _ _).mono ?_
          rintro e w' ⟨rfl, rfl⟩
          rw [hx]
          go_wp2_with fail
          go_ret
          exact ⟨ret_bool HR.out.symm, hq.alloc hq.size _⟩
        · rcases hy : numOk y with _ | _
          · have hr : setOk l = false := by
              have := HN.out (by simp [hx, hy])
              simp [setOk, this]
            have HR := Lib.hid hr
            clear hr
            go_wp2_with fail
            refine (setNumberValid_any _ _).mono ?_
            rintro e w' ⟨rfl, rfl⟩
            rw [hx]
            go_wp2_with fail
            refine (setNumberValid_any _ _).mono ?_
            rintro e w' ⟨rfl, rfl⟩
            rw [hy]
            go_wp2_with fail
            go_ret
            exact ⟨ret_bool HR.out.symm, hq.alloc hq.size _⟩
          · have hr := HY.out (by simp [hx, hy])
            have HR := Lib.hid hr
            clear hr
            go_wp2_with fail
            refine (setNumberValid_any _ _).mono ?_
            rintro e w' ⟨rfl, rfl⟩
            rw [hx]
            go_wp2_with fail
            refine (setNumberValid_any _ _).mono ?_
            rintro e w' ⟨rfl, rfl⟩
            rw [hy]
            go_wp2_with fail
            go_roundw
            case rel => exact ⟨n + 1, by omega, by go_num, HR.out, hq.alloc hq.size _⟩
            case measure => simp [intOf]; omega
      · have hnn : n = L := by omega
        have hall : l.all spanOk = true := by have := HA.out; rwa [hnn, ← HL.out, List.take_length] at this
        have hr : setOk l = true := by simp [setOk, hall, HL.out]; omega
        have HR := Lib.hid hr
        clear hall hr hmail
        go_wp2_with fail
        go_ret
        exact ⟨ret_bool HR.out.symm, hq⟩
  · have hr : setOk l = false := by
      unfold setOk
      rw [hL]
      rcases Nat.lt_or_ge L 1 with h | h
      · simp [show ¬ 1 ≤ L by omega]
      · simp [show ¬ L ≤ 6 by omega]
    have HR := Lib.hid hr
    clear hr hL hmail
    by_cases h1 : L < 1
    · go_enter Tryd.func36, Tryd.ntmps36
      go_wp2_with fail
      go_ret
      exact ⟨ret_bool HR.out.symm, Below.refl _ _⟩
    · have h6 : 6 < L := by omega
      clear hin
      go_enter Tryd.func36, Tryd.ntmps36
      go_wp2_with fail
      go_ret
      exact ⟨ret_bool HR.out.symm, Below.refl _ _⟩
end Go.Proofs.YtgcdopmidmelfaaDoor

/- WALKS: sets, names and flags of a key, in the reference. -/
import Derived.Test.YtgcdopmidmelfaaDoorKMem
import Derived.Test.YtgcdopmidmelfaaDoorFlags
namespace Go.Proofs.YtgcdopmidmelfaaDoor
open Go.RowKit
set_option linter.unusedVariables false

theorem all_take_yes {α : Type} (p : α → Bool) {l : List α} {n : Nat} (h : n < l.length) (h0 : (l.take n).all p = true) (h1 : p l[n] = true) : (l.take (n + 1)).all p = true := by
  rw [List.take_succ_eq_append_getElem h, List.all_append, h0]; simp [h1]
theorem all_take_no {α : Type} (p : α → Bool) {l : List α} {n : Nat} (h : n < l.length) (h1 : p l[n] = false) : l.all p = false := by
  rw [List.all_eq_false]
  exact ⟨l[n], List.getElem_mem h, by simp [h1]⟩
set_option maxHeartbeats 400000 in
theorem specSetValid_any (l : List (Int × Int)) (v : Value) (S : Nat → Prop) (w : World) (h : SetAt w S v l) :
    Calls Tryd.prog 33 #[v] w fun e w' => e = .returned (.bool (setOk l)) ∧ w = w' := by
  obtain ⟨a, L, cap, rfl, hL, hcap, ⟨hmax, _⟩, hmail⟩ := h
  have HL := Lib.hid hL
  clear hL
  go_enter Tryd.func33, Tryd.ntmps33
  go_wp2_with fail
  go_loop [3] (fun i => ∃ n : Nat, n ≤ L ∧ i = .int .i64 n ∧ Hid ((l.take n).all spanOk = true)) (fun i => L - (intOf i).toNat)
  case atStart => exact ⟨0, by omega, rfl, by show _ = _; simp⟩
  case round =>
    obtain ⟨n, hn, rfl, HA⟩ := hrel
    by_cases hlt : n < L
    · rcases hmail with h0 | ⟨g, off, rfl, hg, hcells⟩
      · omega
      have hlt' : n < l.length := by rw [HL.out]; exact hlt
      have hyes := all_take_yes spanOk hlt' HA.out
      have hno := all_take_no spanOk hlt'
      have hm := List.getElem?_eq_getElem hlt'
      generalize l[n] = s at hm hyes hno
      obtain ⟨c0, c1⟩ := hcells n _ hm
      obtain ⟨x, y⟩ := s
      dsimp only at c0 c1
      have hnI : (n : Int) < (L : Int) := by omega
      have HY := Lib.hid hyes; have HN := Lib.hid hno
      clear hcells hm hyes hno
      rcases hx : (decide (0 ≤ x) && decide (x ≤ 99)) with _ | _
      · have hr : setOk l = false := by
          have := HN.out (by simp [spanOk]; simp at hx; intros; omega)
          simp [setOk, this]
        have HR := Lib.hid hr
        clear hr
        go_wp2_with (go_at_call 43; refine (l6In_any _ _ _ _).mono ?_; rintro e w' ⟨rfl, rfl⟩; rw [hx])
        go_ret
        exact ⟨ret_bool HR.out.symm, rfl⟩
      · rcases hy : (decide (0 ≤ y) && decide (y ≤ 99)) with _ | _
        · have hr : setOk l = false := by
            have := HN.out (by simp [spanOk]; simp at hx hy; intros; omega)
            simp [setOk, this]
          have HR := Lib.hid hr
          clear hr
          go_wp2_with fail
          refine (l6In_any _ _ _ _).mono ?_
          rintro e w' ⟨rfl, rfl⟩
          rw [hx]
          go_wp2_with fail
          refine (l6In_any _ _ _ _).mono ?_
          rintro e w' ⟨rfl, rfl⟩
          rw [hy]
          go_wp2_with fail
          go_ret
          exact ⟨ret_bool HR.out.symm, rfl⟩
        · have hr := HY.out (by simp [spanOk]; simp at hx hy; omega)
          have HR := Lib.hid hr
          clear hr
          go_wp2_with fail
          refine (l6In_any _ _ _ _).mono ?_
          rintro e w' ⟨rfl, rfl⟩
          rw [hx]
          go_wp2_with fail
          refine (l6In_any _ _ _ _).mono ?_
          rintro e w' ⟨rfl, rfl⟩
          rw [hy]
          go_wp2_with fail
          go_round
          case rel => exact ⟨n + 1, by omega, by go_num, HR.out⟩
          case measure => simp [intOf]; omega
    · have hnn : n = L := by omega
      have hall : l.all spanOk = true := by have := HA.out; rwa [hnn, ← HL.out, List.take_length] at this
      have hr : setOk l = (decide (1 ≤ (L : Int)) && decide ((L : Int) ≤ 6)) := by
        simp only [setOk, hall, HL.out, Bool.and_true]
        rw [Bool.eq_iff_iff]; simp; omega
      have HR := Lib.hid hr
      clear hall hr hmail
      go_wp2_with fail
      refine (l6In_any _ _ _ _).mono ?_
      rintro e w' ⟨rfl, rfl⟩
      go_wp2_with fail
      go_ret
      exact ⟨ret_bool HR.out.symm, rfl⟩
theorem l12Flag_any (f : Int) (w : World) : Calls Tryd.prog 31 #[.int .i64 f] w fun e w' => e = .returned (.bool (flag1 f)) ∧ w = w' := by
  have hk : flag1 f = (f == 1 || f == 2 || f == 4 || f == 8 || f == 16) := rfl
  have HK := Lib.hid hk
  clear hk
  go_enter Tryd.func31, Tryd.ntmps31
  go_wp2_with fail
  all_goals go_ret
  all_goals exact ⟨ret_bool (by first | (rw [HK.out]; done) | (rw [HK.out]; simp [*]; done) | (rw [HK.out]; simp_all; done)), rfl⟩
end Go.Proofs.YtgcdopmidmelfaaDoor

/- WALKS: names and plain keys. -/
import Derived.Test.YtgcdopmidmelfaaDoorKLeaf2
import Derived.Test.YtgcdopmidmelfaaDoorKNodes
namespace Go.Proofs.YtgcdopmidmelfaaDoor
open Go.RowKit
set_option linter.unusedVariables false

def byteOk (c : UInt8) : Bool := (97 ≤ c.toNat && c.toNat ≤ 122) || (48 ≤ c.toNat && c.toNat ≤ 57)
theorem nameOk_eq (t : ByteArray) : nameOk t = (decide (1 ≤ t.size) && decide (t.size ≤ 8) && t.data.toList.all byteOk) := rfl
theorem byteOk_yes (c : UInt8) (h : byteOk c = true) : (97 ≤ (c.toNat : Int) ∧ (c.toNat : Int) ≤ 122) ∨ (48 ≤ (c.toNat : Int) ∧ (c.toNat : Int) ≤ 57) := by
  simp [byteOk] at h; omega
theorem byteOk_no (c : UInt8) (h : byteOk c = false) : (c.toNat : Int) < 48 ∨ (57 < (c.toNat : Int) ∧ (c.toNat : Int) < 97) ∨ 122 < (c.toNat : Int) := by
  simp [byteOk] at h; omega
set_option maxHeartbeats 400000 in
theorem specNameValid_any (t : ByteArray) (w : World) (ht : t.size ≤ maxLen) : Calls Tryd.prog 42 #[.string t] w fun e w' => e = .returned (.bool (nameOk t)) ∧ w = w' := by
  unfold maxLen at ht
  go_enter Tryd.func42, Tryd.ntmps42
  go_wp2_with fail
  go_loop [3] (fun i => ∃ n : Nat, n ≤ t.size ∧ i = .int .i64 n ∧ Hid ((t.data.toList.take n).all byteOk = true)) (fun i => t.size - (intOf i).toNat)
  case atStart => exact ⟨0, by omega, rfl, by show _ = _; simp⟩
  case round =>
    obtain ⟨n, hn, rfl, HA⟩ := hrel
    by_cases hlt : n < t.size
    · have hlt' : n < t.data.toList.length := by simpa using hlt
      have hyes := all_take_yes byteOk hlt' HA.out
      have hno := all_take_no byteOk hlt'
      have he : t.data.toList[n] = t[n] := rfl
      rw [he] at hyes hno
      have HY := Lib.hid hyes; have HN := Lib.hid hno
      clear hyes hno he
      rcases hb : byteOk t[n] with _ | _
      · have hr : nameOk t = false := by rw [nameOk_eq, HN.out hb]; simp
        have HR := Lib.hid hr
        have h3 := byteOk_no _ hb
        clear hr hb
        rcases h3 with h3 | ⟨h3, h4⟩ | h3
        · have g1 : (t[n].toNat : Int) < 97 := by omega
          go_wp2_with fail
          go_ret
          exact ⟨ret_bool HR.out.symm, rfl⟩
        · have g1 : (48 : Int) ≤ (t[n].toNat : Int) := by omega
          have b1 : decide ((t[n].toNat : Int) ≤ 57) = false := decide_eq_false (by omega)
          go_wp2_with fail
          go_ret
          exact ⟨ret_bool HR.out.symm, rfl⟩
        · have g1 : (48 : Int) ≤ (t[n].toNat : Int) := by omega
          have g2 : (97 : Int) ≤ (t[n].toNat : Int) := by omega
          have b1 : decide ((t[n].toNat : Int) ≤ 57) = false := decide_eq_false (by omega)
          have b2 : decide ((t[n].toNat : Int) ≤ 122) = false := decide_eq_false (by omega)
          go_wp2_with fail
          go_ret
          exact ⟨ret_bool HR.out.symm, rfl⟩
      · have HR := Lib.hid (HY.out hb)
        have h3 := byteOk_yes _ hb
        clear hb
        rcases h3 with ⟨h3, h4⟩ | ⟨h3, h4⟩
        · go_wp2_with fail
          go_round
          case rel => exact ⟨n + 1, by omega, by go_num, HR.out⟩
          case measure => simp [intOf]; omega
        · have g1 : (t[n].toNat : Int) < 97 := by omega
          go_wp2_with fail
          go_round
          case rel => exact ⟨n + 1, by omega, by go_num, HR.out⟩
          case measure => simp [intOf]; omega
    · have hnn : n = t.size := by omega
      have hall : t.data.toList.all byteOk = true := by
        have := HA.out
        rwa [hnn, show t.size = t.data.toList.length from by simp, List.take_length] at this
      have hr : nameOk t = (decide (1 ≤ (t.size : Int)) && decide ((t.size : Int) ≤ 8)) := by
        rw [nameOk_eq, hall, Bool.and_true, Bool.eq_iff_iff]; simp; omega
      have HR := Lib.hid hr
      clear hall hr
      go_wp2_with fail
      refine (l6In_any _ _ _ _).mono ?_
      rintro e w' ⟨rfl, rfl⟩
      go_wp2_with fail
      go_ret
      exact ⟨ret_bool HR.out.symm, rfl⟩
end Go.Proofs.YtgcdopmidmelfaaDoor

/- WALKS: the program's names. -/
import Derived.Test.YtgcdopmidmelfaaDoorKLeaf3
import Derived.Test.YtgcdopmidmelfaaDoorRead
import Derived.Deep.DeepCutAuto
import Derived.Deep.LoopGhost
namespace Go.Proofs.YtgcdopmidmelfaaDoor
open Go.RowKit
set_option linter.unusedVariables false

theorem nameByte_any (c : UInt8) (w : World) : Calls Tryd.prog 55 #[.int .u8 (c.toNat : Int)] w fun e w' => e = .returned (.bool (byteOk c)) ∧ w' = w := by
  rcases hb : byteOk c with _ | _
  · have h3 := byteOk_no _ hb
    clear hb
    rcases h3 with h3 | ⟨h3, h4⟩ | h3
    · have g1 : (c.toNat : Int) < 97 := by omega
      go_enter Tryd.func55, Tryd.ntmps55
      go_wp2_with fail
      go_ret
      exact ⟨rfl, rfl⟩
    · have g1 : (48 : Int) ≤ (c.toNat : Int) := by omega
      have b1 : decide ((c.toNat : Int) ≤ 57) = false := decide_eq_false (by omega)
      go_enter Tryd.func55, Tryd.ntmps55
      go_wp2_with fail
      go_ret
      exact ⟨rfl, rfl⟩
    · have g1 : (48 : Int) ≤ (c.toNat : Int) := by omega
      have g2 : (97 : Int) ≤ (c.toNat : Int) := by omega
      have b1 : decide ((c.toNat : Int) ≤ 57) = false := decide_eq_false (by omega)
      have b2 : decide ((c.toNat : Int) ≤ 122) = false := decide_eq_false (by omega)
      go_enter Tryd.func55, Tryd.ntmps55
      go_wp2_with fail
      go_ret
      exact ⟨rfl, rfl⟩
  · have h3 := byteOk_yes _ hb
    clear hb
    rcases h3 with ⟨h3, h4⟩ | ⟨h3, h4⟩
    · go_enter Tryd.func55, Tryd.ntmps55
      go_wp2_with fail
      go_ret
      exact ⟨rfl, rfl⟩
    · have g1 : (c.toNat : Int) < 97 := by omega
      go_enter Tryd.func55, Tryd.ntmps55
      go_wp2_with fail
      go_ret
      exact ⟨rfl, rfl⟩
theorem nameByte_is (c : UInt8) (d : Bool) (h : byteOk c = d) (w : World) : Calls Tryd.prog 55 #[.int .u8 (c.toNat : Int)] w fun e w' => e = .returned (.bool d) ∧ w' = w := by
  rw [← h]; exact nameByte_any c w
theorem cur_cells {w : World} {b : Nat} {x y : Value} {t : TypeId} (h : w.heap[b]? = some (.cells #[x, y] t (0, 0))) :
    w.cell? ⟨b, 0, none⟩ = some x ∧ w.cell? ⟨b, 1, none⟩ = some y ∧ w.frozen? ⟨b, 1, none⟩ = false := by
  simp [World.cell?, World.frozen?, h]
theorem cur_set {w : World} {b : Nat} {x y u : Value} {t : TypeId} (h : w.heap[b]? = some (.cells #[x, y] t (0, 0))) : (w.setCell ⟨b, 1, none⟩ u).heap[b]? = some (.cells #[x, u] t (0, 0)) := by
  have hlt := lt_of_block h
  have h' : w.heap[b] = .cells #[x, y] t (0, 0) := by simpa [Array.getElem?_eq_getElem hlt] using h
  show (w.heap.modify b _)[b]? = _
  rw [Array.getElem?_eq_getElem (by simpa using hlt), Array.getElem_modify_self, h']
  rfl
theorem cur_grown {w a : World} {b : Nat} (h : w.grownBy a (some b)) (j : Nat) (u : Value) : w.grownBy (a.setCell ⟨b, j, none⟩ u) (some b) :=
  ⟨h.os, h.tape, h.output, by simpa [World.setCell] using h.size, fun k hk hr => (Below.heap_setCell _ _ _ _ (by show k ≠ b; intro e; exact hr (by rw [e]))).trans (h.block k hk hr)⟩
theorem grown_drewN {w a : World} {row : Option Nat} (h : w.grownBy a row) (n : Nat) : w.grownBy (a.drewN n) row := ⟨h.os, h.tape, h.output, h.size, h.block⟩
theorem and_no {a b : Bool} (h : a = false) : (a && b) = false := by rw [h]; rfl
theorem and_yes {a b : Bool} (h : a = true) : (a && b) = b := by rw [h]; rfl
theorem cursorDone_any (cb p : Nat) (t : ByteArray) (ht : t.size ≤ maxLen) (w : World) (h0 : w.cell? ⟨cb, 0, none⟩ = some (.string t)) (h1 : w.cell? ⟨cb, 1, none⟩ = some (.int .i64 (p : Int))) (d : Bool) (hd : ((p : Int) == (t.size : Int)) = d) :
    Calls Tryd.prog 45 #[.pointer (some ⟨cb, 0, none⟩)] w fun e w' => e = .returned (.bool d) ∧ ∃ n, w' = w.drewN n := by
  unfold maxLen at ht
  go_enter Tryd.func45, Tryd.ntmps45
  go_wp2_with fail
  go_quiet (fail)
  go_wp2_with fail
  go_ret
  exact ⟨rfl, _, rfl⟩
set_option maxHeartbeats 400000 in
theorem cursorName_any (cb : Nat) (t : ByteArray) (ht : t.size ≤ maxLen) (w : World) (hz : w.heap[cb]? = some (.cells #[.string t, .int .i64 0] 82 (0, 0))) :
    Calls Tryd.prog 44 #[.pointer (some ⟨cb, 0, none⟩)] w fun e w' => ∃ (p : Nat) (s : ByteArray), e = .returned (.tuple #[.string s, .bool (decide (1 ≤ (p : Int)) && decide ((p : Int) ≤ 8))]) ∧ p ≤ t.size ∧ (p = t.size ↔ t.data.toList.all byteOk = true) ∧
      w'.heap[cb]? = some (.cells #[.string t, .int .i64 p] 82 (0, 0)) ∧ w.grownBy w' (some cb) := by
  have ht' := ht
  unfold maxLen at ht'
  have HZ := Lib.hid hz
  obtain ⟨c0, c1, f1⟩ := cur_cells hz
  clear hz
  go_enter Tryd.func44, Tryd.ntmps44
  go_wp2_with fail
  go_loopg [10] t.size (fun gk _ wr => ∃ n : Nat, n + gk = t.size ∧ Hid ((t.data.toList.take n).all byteOk = true) ∧ Hid (wr.heap[cb]? = some (.cells #[.string t, .int .i64 n] 82 (0, 0))) ∧ Hid (w.grownBy wr (some cb)))
  case atStart => exact ⟨0, by omega, (by show _ = _; simp), HZ.out, grown_refl _ _⟩
  case round =>
    obtain ⟨n, hn, HA, HB, HG⟩ := hrel
    clear c0 c1 f1
    obtain ⟨c0, c1, f1⟩ := cur_cells HB.out
    by_cases hlt : n < t.size
    · have hlt' : n < t.data.toList.length := by simpa using hlt
      have hyes := all_take_yes byteOk hlt' HA.out
      have hno := all_take_no byteOk hlt'
      have he : t.data.toList[n] = t[n] := rfl
      rw [he] at hyes hno
      have HY := Lib.hid hyes; have HN := Lib.hid hno
      have hd : ((n : Int) == (t.size : Int)) = false := beq_eq_false_iff_ne.2 (by omega)
      clear hyes hno he
      rcases hb : byteOk t[n] with _ | _
      · have hr : n = t.size ↔ t.data.toList.all byteOk = true := by rw [HN.out hb]; simp; omega
        have HR := Lib.hid hr
        clear hr
        go_wp2_with fail
        go_quiet (first | (go_at_call 45; exact Calls.quiet_of (cursorDone_any cb n t ht _ (by exact c0) (by exact c1) false hd)) | (go_at_call 55; exact Calls.quiet_of_same (nameByte_is _ _ hb _)))
        clear hd hb
        by_cases h1 : (1 : Int) ≤ (n : Int)
        · go_wp2_with fail
          go_quiet (fail)
          go_wp2_with fail
          go_ret2
          exact ⟨n, _, (by rw [and_yes (decide_eq_true h1)]; rfl), by omega, HR.out, HB.out, grown_drewN (grown_drewN HG.out _) _⟩
        · have h2 : decide ((1 : Int) ≤ (n : Int)) = false := decide_eq_false h1
          go_wp2_with fail
          go_quiet (fail)
          go_wp2_with fail
          go_ret2
          exact ⟨n, _, (by rw [and_no h2]; rfl), by omega, HR.out, HB.out, grown_drewN (grown_drewN HG.out _) _⟩
      · have HR := Lib.hid (HY.out hb)
        have q1 : n + 1 ≤ t.size := hlt
        go_wp2_with fail
        go_quiet (first | (go_at_call 45; exact Calls.quiet_of (cursorDone_any cb n t ht _ (by exact c0) (by exact c1) false hd)) | (go_at_call 55; exact Calls.quiet_of_same (nameByte_is _ _ hb _)))
        go_wp2_with fail
        go_roundg (gk - 1)
        case measure => omega
        case rel => exact ⟨n + 1, by omega, HR.out, (by show _ = _; rw [show ((n + 1 : Nat) : Int) = (n : Int) + 1 from by omega]; exact cur_set HB.out), cur_grown (grown_drewN HG.out _) _ _⟩
    · obtain rfl : n = t.size := by omega
      have hall : t.data.toList.all byteOk = true := by
        have := HA.out
        rwa [show t.size = t.data.toList.length from by simp, List.take_length] at this
      have HR := Lib.hid hall
      have hd : ((t.size : Int) == (t.size : Int)) = true := by simp
      clear hall hlt hn
      go_wp2_with fail
      go_quiet (first | (go_at_call 45; exact Calls.quiet_of (cursorDone_any cb t.size t ht _ (by exact c0) (by exact c1) true hd)))
      clear hd
      by_cases h1 : (1 : Int) ≤ (t.size : Int)
      · go_wp2_with fail
        go_quiet (fail)
        go_wp2_with fail
        go_ret2
        exact ⟨t.size, _, (by rw [and_yes (decide_eq_true h1)]; rfl), Nat.le_refl _, ⟨fun _ => HR.out, fun _ => rfl⟩, HB.out, grown_drewN (grown_drewN HG.out _) _⟩
      · have h2 : decide ((1 : Int) ≤ (t.size : Int)) = false := decide_eq_false h1
        go_wp2_with fail
        go_quiet (fail)
        go_wp2_with fail
        go_ret2
        exact ⟨t.size, _, (by rw [and_no h2]; rfl), Nat.le_refl _, ⟨fun _ => HR.out, fun _ => rfl⟩, HB.out, grown_drewN (grown_drewN HG.out _) _⟩
set_option maxHeartbeats 400000 in
theorem implNameValid_any (t : ByteArray) (w : World) (ht : t.size ≤ maxLen) : Calls Tryd.prog 35 #[.string t] w fun e w' => e = .returned (.bool (nameOk t)) ∧ Below w.heap.size w w' := by
  obtain ⟨w1, hw1⟩ : ∃ w1, w1 = w.alloc (.cells #[.string t, .int .i64 0] 82) := ⟨_, rfl⟩
  have hbel : Below w.heap.size w w1 := by rw [hw1]; exact (Below.refl _ _).alloc (Nat.le_refl _) _
  have hz : w1.heap[w.heap.size]? = some (.cells #[.string t, .int .i64 0] 82 (0, 0)) := by rw [hw1]; exact heap_alloc_new w _
  have HW := Lib.hid hw1; have HZ := Lib.hid hz
  clear hw1 hz
  go_enter Tryd.func35, Tryd.ntmps35
  go_wp2_with fail
  rw [← HW.out]
  refine (cursorName_any w.heap.size t ht w1 HZ.out).mono ?_
  rintro e w2 ⟨p, s, rfl, hp, hall, hz2, hg⟩
  have bel : Below w.heap.size w w2 := hbel.grown hg hbel.size (fun k hk => by cases hk; exact Nat.le_refl _)
  obtain ⟨c0, c1, f1⟩ := cur_cells hz2
  have hd : ((p : Int) == (t.size : Int)) = (t.data.toList.all byteOk) := by rw [Bool.eq_iff_iff, ← hall]; simp; omega
  have hr : nameOk t = ((decide (1 ≤ (p : Int)) && decide ((p : Int) ≤ 8)) && t.data.toList.all byteOk) := by
    rw [nameOk_eq]
    rcases ha : t.data.toList.all byteOk with _ | _
    · simp
    · rw [hall.2 ha, Bool.and_true, Bool.and_true, Bool.eq_iff_iff]; simp; omega
  obtain ⟨D, hD⟩ : ∃ D, t.data.toList.all byteOk = D := ⟨_, rfl⟩
  rw [hD] at hd hr
  have HD := Lib.hid hd
  have HR := Lib.hid hr
  clear hd hr hg hz2 hall hD
  rcases hb : (decide (1 ≤ (p : Int)) && decide ((p : Int) ≤ 8)) with _ | _
  · rw [hb] at HR
    clear hb
    go_wp2_with fail
    go_ret
    exact ⟨ret_bool (by rw [HR.out]; rfl), bel⟩
  · rw [hb] at HR
    clear hb
    go_wp2_with fail
    refine (cursorDone_any w.heap.size p t ht _ (by exact c0) (by exact c1) _ HD.out).mono ?_
    rintro e w3 ⟨rfl, n, rfl⟩
    clear c0 c1 f1
    go_wp2_with fail
    go_ret
    exact ⟨ret_bool (by rw [HR.out]; rfl), bel.trans ⟨rfl, rfl, rfl, Nat.le_refl _, fun _ _ => rfl⟩⟩
end Go.Proofs.YtgcdopmidmelfaaDoor

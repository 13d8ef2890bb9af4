/- WALKS: marks of numbers; marked mailboxes are read back. -/
import Derived.Test.YtpahgjideppmoaaExMark
namespace Go.Proofs.Ytpahgjideppmoaa
open Go.RowKit
set_option linter.unusedVariables false
attribute [local go_sem ↓] Go.wp_at_zero Go.wp_at_succ

theorem heldBox_any (b b' : B) (v : Value) (k : Nat) (w : World) (h : BoxAt w v b') (he : b'.mail = markM k b.mail) (hk : 1 ≤ k) (hl : b.mail.length ≤ 1048576) (hk2 : k + b.mail.length * 3 ≤ 900000000) :
    Calls Try.prog 14 #[v, .int .i64 (k : Int)] w fun e w' => e = .returned (.int .i64 ((k + b.mail.length * 3 : Nat) : Int)) ∧ Below w.heap.size w w' := by
  obtain ⟨s, rfl, k1⟩ := h
  have e1 := k1
  obtain ⟨a1, L, cap1, rfl, hL, hc1, _, hmail1⟩ := e1
  have K := fun W hW => heldMailS_any b.mail b'.mail (.slice a1 L cap1) k W (k1.below (w' := W) hW) he hk hl hk2
  have HK := Lib.hid K
  obtain ⟨z, hz⟩ : ∃ z : Nat, z = k + b.mail.length * 3 := ⟨_, rfl⟩
  rw [← hz] at HK ⊢
  clear hL hmail1 k1 K he hz
  go_enter Try.func14, Try.ntmps14
  go_wp2_with fail
  refine (HK.out _ (by go_grown)).mono ?_
  rintro e w2 ⟨rfl, q2⟩
  have q3 : Below w.heap.size w w2 := Below.trans (by go_grown) (q2.mono (by simp))
  clear q2 HK
  go_wp2_with fail
  go_ret
  exact ⟨rfl, q3⟩
set_option maxHeartbeats 400000 in
theorem markIntS_at (l : List Int) (g cap base k : Nat) (w : World) (h : OwnInts w base (.slice (some ⟨g, 0, none⟩) l.length cap) l) (hk : 1 ≤ k) (hl : l.length ≤ 1048576) (hk2 : k + l.length ≤ 900000000) :
    Calls Try.prog 13 #[.slice (some ⟨g, 0, none⟩) l.length cap, .int .i64 (k : Int)] w fun e w' => e = .returned (.int .i64 ((k + l.length : Nat) : Int)) ∧ OwnInts w' base (.slice (some ⟨g, 0, none⟩) l.length cap) (markI k l) ∧ w.grownBy w' (some g) := by
  have HO := Lib.hid h
  have hcap := h.at (by omega)
  obtain ⟨_, _, _, he, _, hlc, _⟩ := hcap
  cases he
  clear h
  go_enter Try.func13, Try.ntmps13
  go_wp2_with fail
  go_loopw [1, 5] (fun kv i wr => ∃ (n x : Nat), n ≤ l.length ∧ 1 ≤ x ∧ x ≤ 900000000 ∧ i = .int .i64 (n : Int) ∧ kv = .int .i64 (x : Int) ∧ Hid (x = k + n) ∧ Hid (OwnInts wr base (.slice (some ⟨g, 0, none⟩) l.length cap) (upd (fun i _ => ((k + i : Nat) : Int)) n l)) ∧ Hid (w.grownBy wr (some g))) (fun _ i _ => l.length - (intOf i).toNat)
  case atStart => exact ⟨0, k, by omega, by omega, by omega, rfl, rfl, rfl, by rw [upd_zero]; exact HO.out, grown_refl _ _⟩
  case round =>
    obtain ⟨n, x, hn, hx1, hx2, rfl, rfl, HX, HO2, HG⟩ := hrel
    clear HO
    by_cases hlt : n < l.length
    · have hm := List.getElem?_eq_getElem hlt
      generalize l[n] = m at hm
      have hat := upd_at (fun i _ => ((k + i : Nat) : Int)) n l m hm
      have hln := upd_length (fun i _ => ((k + i : Nat) : Int)) n l
      obtain ⟨d0, e0⟩ := HO2.out.cell1 hat
      have o2 := HO2.out.put hln.symm (j := n) (by rw [hln]; exact hlt) (x : Int)
      have hset := upd_set (fun i _ => ((k + i : Nat) : Int)) n l m hm
      rw [show ((x : Nat) : Int) = ((k + n : Nat) : Int) from by have := HX.out; omega, hset, show ((k + n : Nat) : Int) = (x : Int) from by have := HX.out; omega] at o2
      have hnI : (n : Int) < (l.length : Int) := by omega
      have O2 := Lib.hid o2
      have HX3 : Hid (x + 1 = k + (n + 1)) := by show _ = _; have := HX.out; omega
      have hx5 : x + 1 ≤ 900000000 := by have := HX3.out; omega
      clear o2 hat hln hm hset
      go_wp2_with fail
      go_roundw
      case rel => exact ⟨n + 1, x + 1, by omega, by omega, by omega, by go_num, by go_num, HX3.out, O2.out, grown_at HG.out _ _⟩
      case measure => simp [intOf]; omega
    · have hnn : n = l.length := by omega
      have ho := HO2.out
      rw [upd_all _ _ hnn] at ho
      have HO3 : Hid (OwnInts wr base (.slice (some ⟨g, 0, none⟩) l.length cap) (markI k l)) := ho
      have hxx : x = k + l.length := by rw [HX.out, hnn]
      have HXX := Lib.hid hxx
      clear ho hnn hxx HO2
      go_wp2_with fail
      go_ret
      exact ⟨ret_int (by have := HXX.out; omega), HO3.out, HG.out⟩
theorem markIntS_nil (k : Int) (w : World) : Calls Try.prog 13 #[.slice none 0 0, .int .i64 k] w fun e w' => e = .returned (.int .i64 k) ∧ w = w' := by
  go_enter Try.func13, Try.ntmps13
  go_wp2_with fail
  refine wp_loop_rounds 1 ?_
  rw [rounds_succ]
  go_wp2_with fail
  go_ret
  exact ⟨rfl, rfl⟩
theorem markIntS_any (l : List Int) (a : Option Addr) (cap base k : Nat) (w : World) (h : OwnInts w base (.slice a l.length cap) l) (hk : 1 ≤ k) (hl : l.length ≤ 1048576) (hk2 : k + l.length ≤ 900000000) :
    Calls Try.prog 13 #[.slice a l.length cap, .int .i64 (k : Int)] w fun e w' => e = .returned (.int .i64 ((k + l.length : Nat) : Int)) ∧ OwnInts w' base (.slice a l.length cap) (markI k l) ∧ w.grownBy w' (Value.slice a l.length cap).ownBlock := by
  have h' := h
  rcases h.2 with ⟨h2, h0⟩ | ⟨g, cap', cur, h2, _⟩
  · have hl0 : l = [] := List.eq_nil_of_length_eq_zero h0
    subst hl0
    cases h2
    refine (markIntS_nil (k : Int) w).mono ?_
    rintro e w' ⟨rfl, rfl⟩
    exact ⟨ret_int (by simp), h', grown_refl _ _⟩
  · cases h2
    exact markIntS_at l g cap base k w h' hk hl hk2
end Go.Proofs.Ytpahgjideppmoaa

/- WALKS: how a text is drawn. -/
import Derived.Test.YtpahgjideppmoaaDrawFlags
namespace Go.Proofs.Ytpahgjideppmoaa
open Go.RowKit
set_option linter.unusedVariables false

theorem of_any (r B b n cap : Nat) (hn : 1 ≤ n) (hn' : n ≤ 1000) (hB : B ≤ 1000000) (w : World) (h : Rd w r B) (hb : b ≠ r) (hc : ∀ k, k < n → ∃ s, w.cell? ⟨b, k, none⟩ = some (.string s)) :
    Calls Try.prog 48 #[.pointer (some ⟨r, 0, none⟩), .slice (some ⟨b, 0, none⟩) n cap] w fun e w' => ∃ s, e = .returned (.string s) ∧ Rd w' r (B + 1) ∧ w.grownBy w' (some r) := by
  have HC := Lib.hid hc
  clear hc
  go_enter Try.func48, Try.ntmps48
  go_wp2_with fail
  refine (pick_any r B _ (by omega) (by omega) (by omega) _ h).mono ?_
  rintro e w1 ⟨m, rfl, hm, h1, g1⟩
  obtain ⟨s, hs⟩ := HC.out m (by omega)
  have hs1 := (g1.block b (World.block_lt_of_cell? _ _ hs) (by simp; exact hb))
  have hs2 : w1.cell? ⟨b, m, none⟩ = some (.string s) := (World.cell?_of_block (a := ⟨b, m, none⟩) hs1).trans hs
  have hm' : m < n := by omega
  clear hs hs1
  go_wp2_with fail
  go_ret
  exact ⟨s, rfl, h1, g1⟩
theorem many_step (t m : Nat) : t * m = (t + t) * (m / 2) + t * (m % 2) := by
  have h := Nat.div_add_mod m 2
  have e : t * m = t * (2 * (m / 2) + m % 2) := by rw [h]
  rw [e, Nat.mul_add, ← Nat.mul_assoc, Nat.mul_two]
set_option maxHeartbeats 400000 in
theorem l6Many_any (s : ByteArray) (n : Nat) (hs : s.size ≤ 42) (hn : s.size * n ≤ 21) (hn' : n ≤ 1000) (w : World) :
    Calls Try.prog 47 #[.string s, .int .i64 n] w fun e w' => ∃ s, e = .returned (.string s) ∧ w = w' := by
  go_enter Try.func47, Try.ntmps47
  go_wp2_with fail
  go_loop [0, 1, 5] (fun a k o => ∃ (m : Nat) (t u : ByteArray), a = .string t ∧ k = .int .i64 m ∧ o = .string u ∧ m ≤ 1000 ∧ t.size ≤ 42 ∧ u.size + t.size * m ≤ 21) (fun _ k _ => (intOf k).toNat)
  case atStart => exact ⟨n, s, _, rfl, rfl, rfl, hn', hs, by show 0 + _ ≤ _; omega⟩
  case round =>
    obtain ⟨m, t, u, rfl, rfl, rfl, hmm, ht, hu⟩ := hrel
    by_cases hm : 0 < m
    · have hd : (m : Int) / 2 = ((m / 2 : Nat) : Int) := by simp
      have HD := Lib.hid hd
      clear hd
      have hst := many_step t.size m
      have htm : t.size ≤ t.size * m := Nat.le_mul_of_pos_right _ hm
      have hu2 : u.size ≤ 21 := by omega
      have ht2 : t.size ≤ 21 := by omega
      rcases Nat.mod_two_eq_zero_or_one m with x1 | x1
      · have m1 : (m : Int) % 2 = 0 := by omega
        rw [x1, Nat.mul_zero, Nat.add_zero] at hst
        have h2 : (u.size + (t ++ t).size * (m / 2) ≤ 21) := by rw [ByteArray.size_append, ← hst]; exact hu
        have H2 := Lib.hid h2
        clear x1 hst htm hu h2
        go_wp2_with fail
        go_round
        case rel => exact ⟨m / 2, _, _, rfl, by rw [← HD.out], rfl, by omega, by simp; omega, H2.out⟩
        case measure => simp [intOf]; omega
      · have m1 : (m : Int) % 2 = 1 := by omega
        rw [x1, Nat.mul_one] at hst
        have h2 : ((u ++ t).size + (t ++ t).size * (m / 2) ≤ 21) := by rw [ByteArray.size_append, ByteArray.size_append]; omega
        have H2 := Lib.hid h2
        clear x1 hst htm hu h2
        go_wp2_with fail
        go_round
        case rel => exact ⟨m / 2, _, _, rfl, by rw [← HD.out], rfl, by omega, by simp; omega, H2.out⟩
        case measure => simp [intOf]; omega
    · clear hu
      go_wp2_with fail
      go_ret
      exact ⟨⟨_, rfl⟩, rfl⟩
def textsDrawn : Array Value := #[.string ⟨#[]⟩, .string ⟨#[104, 101, 108, 108, 111]⟩, .string ⟨#[97, 109, 121, 32, 97, 110, 100, 32, 98, 111, 98]⟩, .string ⟨#[120]⟩, .string ⟨#[98, 111, 120, 49, 32, 111, 114, 32, 120]⟩, .string ⟨#[116, 111, 32, 98, 111, 98]⟩]
theorem textsDrawn_at (k : Nat) (hk : k < 6) : ∃ s, textsDrawn[k]? = some (.string s) := by
  match k, hk with
  | 0, _ => exact ⟨_, rfl⟩
  | 1, _ => exact ⟨_, rfl⟩
  | 2, _ => exact ⟨_, rfl⟩
  | 3, _ => exact ⟨_, rfl⟩
  | 4, _ => exact ⟨_, rfl⟩
  | 5, _ => exact ⟨_, rfl⟩
theorem l91Text_any (r B : Nat) (hB : B + 2 ≤ 1000000) (w : World) (h : Rd w r B) :
    Calls Try.prog 44 #[.pointer (some ⟨r, 0, none⟩)] w fun e w' => ∃ s, e = .returned (.string s) ∧ Rd w' r (B + 2) ∧ w.grownBy w' (some r) := by
  have hlt := h.lt
  go_enter Try.func44, Try.ntmps44
  go_wp2_with fail
  refine (pick_any r B _ (by omega) (by omega) (by omega) _ h).mono ?_
  rintro e w1 ⟨m, rfl, hm, h1, g1⟩
  have hlt1 := h1.lt
  by_cases hm0 : m = 0
  · subst hm0
    go_wp2_with fail
    refine (pick_any r (B + 1) _ (by omega) (by omega) (by omega) _ h1).mono ?_
    rintro e w2 ⟨m, rfl, hm, h2, g2⟩
    go_wp2_with fail
    rw [show (19 : Int) + (m : Int) = ((19 + m : Nat) : Int) from by simp]
    refine (l6Many_any _ _ (by decide) (by show 1 * _ ≤ _; omega) (by omega) _).mono ?_
    rintro e w' ⟨s, rfl, rfl⟩
    go_wp2_with fail
    go_ret
    exact ⟨s, rfl, h2, grown_trans g1 g2⟩
  · have hm1 : ((m : Int) == 0) = false := by simp; omega
    have hc : ∀ k, k < 6 → ∃ s, (w1.alloc (.cells textsDrawn 9)).cell? ⟨w1.heap.size, k, none⟩ = some (.string s) := fun k hk => by
      obtain ⟨s, hs⟩ := textsDrawn_at k hk
      exact ⟨s, cell_of_block (heap_alloc_new w1 _) hs⟩
    have HC := Lib.hid hc
    clear hc
    have h1' : Rd (w1.alloc (.cells textsDrawn 9)) r (B + 1) := h1.below ((Below.refl _ _).alloc (Nat.le_refl _) _)
    go_wp2_with fail
    refine (of_any r (B + 1) w1.heap.size 6 6 (by omega) (by omega) (by omega) _ h1' (by omega) HC.out).mono ?_
    rintro e w2 ⟨s, rfl, h2, g2⟩
    go_wp2_with fail
    go_ret
    exact ⟨s, rfl, h2, grown_trans (grown_trans g1 (World.grownBy_alloc _ _ _)) g2⟩
end Go.Proofs.Ytpahgjideppmoaa

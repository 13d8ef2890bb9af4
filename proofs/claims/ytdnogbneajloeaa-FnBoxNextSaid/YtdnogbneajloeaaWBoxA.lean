/- WALKS: the laws of when a mailbox is valid. -/
import Derived.Test.YtdnogbneajloeaaDraws
import Derived.Deep.RegionHeld3
import Derived.Deep.DeepCutAuto
namespace Go.Proofs.Ytdnogbneajloeaa
open Go.RowKit
set_option linter.unusedVariables false

theorem asc_le : ∀ (l : List M) (x y : Int), asc x l = some y → x ≤ y ∧ ∀ m ∈ l, m.uid ≤ y
  | [], x, y, h => by simp [asc] at h; subst h; exact ⟨Int.le_refl _, by simp⟩
  | a :: l, x, y, h => by
    simp only [asc] at h
    split at h
    · next hc =>
      simp only [Bool.and_eq_true, decide_eq_true_eq] at hc
      have k := asc_le l a.uid y h
      refine ⟨by omega, fun m hm => ?_⟩
      rcases List.mem_cons.1 hm with rfl | hm
      · exact k.1
      · exact k.2 m hm
    · cases h
theorem bok_asc {b : B} (h : bok b = true) : ∃ y, asc 0 b.mail = some y ∧ y < b.next ∧ b.next ≤ 100 ∧ b.mail.length ≤ 10 ∧ y ≤ 99 := by
  unfold bok at h
  split at h
  · cases h
  · next y hy =>
    have := asc_bd _ _ _ (by omega) (by omega) hy
    simp at h
    exact ⟨y, hy, by omega⟩
theorem bok_uid {b : B} (h : bok b = true) {m : M} (hm : m ∈ b.mail) : bok ⟨m.uid, b.mail⟩ = false := by
  obtain ⟨y, hy, _⟩ := bok_asc h
  have := (asc_le _ _ _ hy).2 m hm
  unfold bok; dsimp only; rw [hy]; simp; intros; omega
theorem bok_hundred {b : B} (h : bok b = true) : bok ⟨100, b.mail⟩ = true := by
  obtain ⟨y, hy, h1, h2, h3, h4⟩ := bok_asc h
  unfold bok; dsimp only; rw [hy]; simp; omega

set_option maxHeartbeats 400000 in
theorem fnBoxNext.walk (a : Option Addr) (len cap : Nat) (hl : len ≤ cap) (hm : cap ≤ maxLen) (a1 : Option Addr) (len1 cap1 : Nat) (hl1 : len1 ≤ cap1) (hm1 : cap1 ≤ maxLen) (w : World) (hc : CodeAt w a len) (hc1 : CodeAt w a1 len1) :
    Calls Try.prog 5 #[.slice a len cap, .slice a1 len1 cap1] w fun e w' => e = .returned (.bool true) ∧ Below w.heap.size w w' := by
  unfold maxLen at hm hm1
  clear hc1
  by_cases h1 : 1048576 < len
  · go_enter Try.func5, Try.ntmps5
    go_wp2_with fail
    all_goals go_ret
    all_goals exact ⟨rfl, Below.refl _ _⟩
  · by_cases h2 : 1048576 < len1
    · go_enter Try.func5, Try.ntmps5
      go_wp2_with fail
      go_ret
      exact ⟨rfl, Below.refl _ _⟩
    · go_enter Try.func5, Try.ntmps5
      go_wp2_with fail
      refine (DrawBoxValid_any a len cap hl w hc).mono ?_
      clear hc
      rintro e w1 ⟨b, a2, cap2, rfl, hb, b1⟩
      obtain ⟨wx, hwx⟩ : ∃ wx, wx = w1.alloc (.cells #[.int .i64 b.next, .slice a2 b.mail.length cap2] 29) := ⟨_, rfl⟩
      have bx : Below w1.heap.size w1 wx := by rw [hwx]; exact (Below.refl _ _).alloc (Nat.le_refl _) _
      have zx : wx.heap[w1.heap.size]? = some (.cells #[.int .i64 b.next, .slice a2 b.mail.length cap2] 29 (0, 0)) := by rw [hwx]; exact heap_alloc_new w1 _
      have hbx := hb.below bx
      have bel := b1.trans (bx.mono b1.size)
      have s1 := b1.size
      have HW := Lib.hid hwx
      clear hwx hb b1 bx
      obtain ⟨c0, c1, f0, f1⟩ := two_cells zx
      go_wp2_with fail
      rw [← HW.out]
      refine (implBoxValid_any b _ _ hbx.box).mono ?_
      rintro e w2 ⟨rfl, q2⟩
      have z2 := (q2.block _ (lt_of_block zx)).trans zx
      have hb2 := hbx.below q2
      have bel2 := bel.trans (q2.mono bel.size)
      clear c0 c1 f0 f1 zx hbx bel HW q2
      obtain ⟨c0, c1, f0, f1⟩ := two_cells z2
      go_wp2_with fail
      refine (specBoxValid_any b _ _ hb2.box).mono ?_
      rintro e w3 ⟨rfl, q3⟩
      have z3 := (q3.block _ (lt_of_block z2)).trans z2
      have hb3 := hb2.below q3
      have bel3 := bel2.trans (q3.mono bel2.size)
      clear c0 c1 f0 f1 z2 hb2 bel2 q3
      obtain ⟨c0, c1, f0, f1⟩ := two_cells z3
      have z3l := lt_of_block z3
      have HB := Lib.hid hb3
      clear z3 hb3
      rcases hbk : bok b with _ | _
      · go_wp2_with fail
        go_ret
        exact ⟨rfl, bel3⟩
      · by_cases hlen : b.mail.length = 0
        · go_wp2_with fail
          all_goals go_ret
          all_goals exact ⟨rfl, by go_grown⟩
        · have hlen' : ((b.mail.length : Int) == 0) = false := beq_eq_false_iff_ne.2 (by omega)
          obtain ⟨g, rfl, hcap, hg1, hg2⟩ := HB.out.2.form2 (by omega)
          have hk : len1 % b.mail.length < b.mail.length := Nat.mod_lt _ (by omega)
          have et : (len1 : Int) % (b.mail.length : Int) = ((len1 % b.mail.length : Nat) : Int) := by simp
          obtain ⟨k, hkk⟩ : ∃ k, len1 % b.mail.length = k := ⟨_, rfl⟩
          rw [hkk] at hk et
          clear hkk
          obtain ⟨m, hmm, i0, i1, i2, i3⟩ := HB.out.2.at hk
          have hl10 := HB.out.1.2.2
          have hkI : (k : Int) < (b.mail.length : Int) := by omega
          have hk0 : (0 : Int) ≤ (k : Int) := Int.natCast_nonneg _
          have et2 : (len1 : Int).tmod (b.mail.length : Int) = (k : Int) := by rw [Int.tmod_eq_emod_of_nonneg (Int.natCast_nonneg _)]; exact et
          have n1 := ne_both z3l
          have n2 := ne_both hg2
          go_upto_region 9 with fail
          go_region_held3 (fun W => W.cell? ⟨w1.heap.size, 1, none⟩ = some (.slice (some ⟨g, 0, none⟩) b.mail.length cap2) ∧ W.cell? ⟨g, k * 3, none⟩ = some (.int .i64 m.uid)) (go_keep) (fail)
          have hno := bok_uid hbk (List.mem_of_getElem? hmm)
          have hyes := bok_hundred hbk
          have HN := Lib.hid hno
          have HY := Lib.hid hyes
          clear hno hyes et et2 hk hkI hk0 i0 i1 i2 i3 hmm
          go_wp2_with fail
          refine (implBoxValid_any ⟨m.uid, b.mail⟩ _ _ ⟨_, rfl, Own.mail (Own.below HB.out.2 (by go_grown)) (by dsimp only; omega)⟩).mono ?_
          rintro e w4 ⟨rfl, q4⟩
          have z9 : w4.heap[w3.heap.size + 1]? = some (.cells #[.int .i64 100, .slice (some ⟨g, 0, none⟩) b.mail.length cap2] 29 (0, 0)) := (q4.block _ (by simp)).trans (by
            have := heap_alloc_new (w3.alloc (.cells #[.int .i64 m.uid, .slice (some ⟨g, 0, none⟩) b.mail.length cap2] 29)) (.cells #[.int .i64 100, .slice (some ⟨g, 0, none⟩) b.mail.length cap2] 29)
            show ((w3.alloc _).alloc _).heap[w3.heap.size + 1]? = _
            simpa using this)
          have hb4 := Own.below (w' := w4) HB.out.2 (Below.trans (by go_grown) (q4.mono (by simp; omega)))
          have bel4 : Below w.heap.size w w4 := Below.trans (by go_grown) (q4.mono (by have := bel3.size; simp; omega))
          have HB4 := Lib.hid hb4
          rw [HN.out]
          obtain ⟨d0, d1, _, _⟩ := two_cells z9
          clear hb4 z9 c0 c1 f0 f1 bel3 HB q4
          go_wp2_with fail
          refine (implBoxValid_any ⟨100, b.mail⟩ _ _ ⟨_, rfl, Own.mail HB4.out (by dsimp only; omega)⟩).mono ?_
          rintro e w5 ⟨rfl, q5⟩
          have bel5 := bel4.trans (q5.mono bel4.size)
          rw [HY.out]
          go_wp2_with fail
          go_ret
          exact ⟨rfl, bel5⟩
end Go.Proofs.Ytdnogbneajloeaa

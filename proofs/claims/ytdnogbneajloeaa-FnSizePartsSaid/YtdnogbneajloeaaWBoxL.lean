/- WALKS: the size of a mailbox is the sum of its parts'. -/
import Derived.Test.YtdnogbneajloeaaBoxCell
import Derived.Test.YtdnogbneajloeaaSize
import Derived.IntWalk
namespace Go.Proofs.Ytdnogbneajloeaa
open Go.RowKit
set_option linter.unusedVariables false

theorem size_parts {b : B} (h : bok b = true) (k : Nat) : sizeOf ⟨b.next, b.mail.take k⟩ + sizeOf ⟨b.next, b.mail.drop k⟩ = sizeOf b := by
  have e : bytesOf b.mail = bytesOf (b.mail.take k) + bytesOf (b.mail.drop k) := by rw [← bytesOf_append, List.take_append_drop]
  simp only [sizeOf, h, bok_take h k, bok_drop h k, if_true]
  omega
theorem size_bd {b : B} (h : bok b = true) : 0 ≤ sizeOf b ∧ sizeOf b ≤ 200 := by
  have h1 := bytesOf_le b.mail (bok_mok h)
  have h2 := (bok_next h).2.2
  simp only [sizeOf, h, if_true]
  omega
set_option maxHeartbeats 400000 in
theorem fnSizeParts.walk (a : Option Addr) (len cap : Nat) (hl : len ≤ cap) (hm : cap ≤ maxLen) (a1 : Option Addr) (len1 cap1 : Nat) (hl1 : len1 ≤ cap1) (hm1 : cap1 ≤ maxLen) (w : World) (hc : CodeAt w a len) (hc1 : CodeAt w a1 len1) :
    Calls Try.prog 8 #[.slice a len cap, .slice a1 len1 cap1] w fun e w' => e = .returned (.bool true) ∧ Below w.heap.size w w' := by
  unfold maxLen at hm hm1
  clear hc1
  by_cases h1 : 1048576 < len
  · go_enter Try.func8, Try.ntmps8
    go_wp2_with fail
    all_goals go_ret
    all_goals exact ⟨rfl, Below.refl _ _⟩
  · by_cases h2 : 1048576 < len1
    · go_enter Try.func8, Try.ntmps8
      go_wp2_with fail
      go_ret
      exact ⟨rfl, Below.refl _ _⟩
    · go_enter Try.func8, Try.ntmps8
      go_wp2_with fail
      refine (DrawBoxSize_any a len cap hl w hc).mono ?_
      clear hc
      rintro e w1 ⟨b, a2, cap2, rfl, hb, b1⟩
      obtain ⟨wx, hwx⟩ : ∃ wx, wx = w1.alloc (.cells #[.int .i64 b.next, .slice a2 b.mail.length cap2] 29) := ⟨_, rfl⟩
      have bx : Below w1.heap.size w1 wx := by rw [hwx]; exact (Below.refl _ _).alloc (Nat.le_refl _) _
      have zx : wx.heap[w1.heap.size]? = some (.cells #[.int .i64 b.next, .slice a2 b.mail.length cap2] 29 (0, 0)) := by rw [hwx]; exact heap_alloc_new w1 _
      have hbx := hb.below bx
      have bel := b1.trans (bx.mono b1.size)
      have s1 := b1.size
      have HW := Lib.hid hwx
      clear hwx hb b1 bx
      obtain ⟨c0, c1, f0, f1⟩ := two_cells zx
      go_wp2_with fail
      rw [← HW.out]
      refine (implBoxSize_any b _ _ hbx.box).mono ?_
      rintro e w2 ⟨rfl, q2⟩
      have z2 := (q2.block _ (lt_of_block zx)).trans zx
      have hb2 := hbx.below q2
      have bel2 := bel.trans (q2.mono bel.size)
      clear c0 c1 f0 f1 zx hbx bel HW q2
      obtain ⟨c0, c1, f0, f1⟩ := two_cells z2
      go_wp2_with fail
      refine (specBoxSize_any b _ _ hb2.box).mono ?_
      rintro e w3 ⟨rfl, q3⟩
      have z3 := (q3.block _ (lt_of_block z2)).trans z2
      have hb3 := hb2.below q3
      have bel3 := bel2.trans (q3.mono bel2.size)
      clear c0 c1 f0 f1 z2 hb2 bel2 q3
      obtain ⟨c0, c1, f0, f1⟩ := two_cells z3
      go_wp2_with fail
      refine (implBoxValid_any b _ _ hb3.box).mono ?_
      rintro e w4 ⟨rfl, q4⟩
      have z4 := (q4.block _ (lt_of_block z3)).trans z3
      have hb4 := hb3.below q4
      have bel4 := bel3.trans (q4.mono bel3.size)
      clear c0 c1 f0 f1 z3 hb3 bel3 q4
      obtain ⟨c0, c1, f0, f1⟩ := two_cells z4
      have z4l := lt_of_block z4
      have HB := Lib.hid hb4
      have Z4 := Lib.hid z4
      clear z4 hb4
      rcases hbk : bok b with _ | _
      · have hs : sizeOf b = -1 := by simp [sizeOf, hbk]
        rw [hs]
        go_wp2_with fail
        go_ret
        exact ⟨rfl, bel4⟩
      · obtain ⟨sb0, sb1⟩ := size_bd hbk
        have hl10 := HB.out.1.2.2
        have hk : len1 % (b.mail.length + 1) ≤ b.mail.length := by have := Nat.mod_lt len1 (show 0 < b.mail.length + 1 by omega); omega
        have et : (len1 : Int) % ((b.mail.length : Int) + 1) = ((len1 % (b.mail.length + 1) : Nat) : Int) := by simp
        obtain ⟨k, hkk⟩ : ∃ k, len1 % (b.mail.length + 1) = k := ⟨_, rfl⟩
        rw [hkk] at hk et
        clear hkk
        have et2 : (len1 : Int).tmod ((b.mail.length : Int) + 1) = (k : Int) := by rw [Int.tmod_eq_emod_of_nonneg (Int.natCast_nonneg _)]; exact et
        have hp := size_parts hbk k
        obtain ⟨p0, p1⟩ := size_bd (bok_take hbk k)
        obtain ⟨p2, p3⟩ := size_bd (bok_drop hbk k)
        have HM := Lib.hid (HB.out.2.mail (by omega))
        obtain ⟨x1, hx1⟩ : ∃ x, sizeOf ⟨b.next, b.mail.take k⟩ = x := ⟨_, rfl⟩
        obtain ⟨x2, hx2⟩ : ∃ x, sizeOf ⟨b.next, b.mail.drop k⟩ = x := ⟨_, rfl⟩
        rw [hx1, hx2] at hp
        rw [hx1] at p0 p1
        rw [hx2] at p2 p3
        have X1 := Lib.hid hx1
        have X2 := Lib.hid hx2
        have hsum := hp
        have HS := Lib.hid hp
        have P := Lib.hid (And.intro p0 (And.intro p1 (And.intro p2 p3)))
        have SB := Lib.hid (And.intro sb0 sb1)
        have HBK := Lib.hid hbk
        clear hsum hp p0 p1 p2 p3 sb0 sb1 hx1 hx2 hbk et
        go_upto_region 11 with fail
        have hkI : (k : Int) ≤ (b.mail.length : Int) := by omega
        have hk0 : (0 : Int) ≤ (k : Int) := Int.natCast_nonneg _
        clear et2
        obtain ⟨lt, hlt⟩ : ∃ l, b.mail.take k = l := ⟨_, rfl⟩
        obtain ⟨ld, hld⟩ : ∃ l, b.mail.drop k = l := ⟨_, rfl⟩
        have hlk : ld.length = b.mail.length - k := by rw [← hld, List.length_drop]
        have htk : lt.length = k := by rw [← hlt, List.length_take]; omega
        rw [hlt] at X1
        rw [hld] at X2
        have hT : ∀ (W : World), Below w4.heap.size w4 W → MailAt W (.slice a2 k cap2) lt := fun W hW => hlt ▸ (MailAt.take HM.out hk).below hW
        have HX : Hid (Drawn w4 w.heap.size (.slice a2 b.mail.length cap2) b) := HB
        rcases HX.out.2.2 with ⟨h, h0⟩ | ⟨g, cap', cur, h, _, _, hn, _⟩
        · injection h with h1' h2' h3'
          subst h1' h3'
          have hL := Lib.hid h2'
          obtain rfl : k = 0 := by omega
          rw [h2'] at c1
          have hD : ∀ (W : World), Below w4.heap.size w4 W → MailAt W (.slice none 0 0) ld := fun W hW => ⟨none, 0, 0, rfl, by omega, by omega, ⟨by omega, fun _ => rfl⟩, .inl rfl⟩
          have HT := Lib.hid hT; have HD := Lib.hid hD
          clear hT hD HX HB HM hlt hld hlk htk h2' h0
          have hnil := HT
          first
          | (
            go_region_held3 (fun W => W.cell? ⟨w1.heap.size, 0, none⟩ = some (.int .i64 b.next) ∧ W.cell? ⟨w1.heap.size, 1, none⟩ = some (.slice none 0 0)) (first | exact ⟨c0, c1⟩ | (go_keep; done))
              (first
              | ((fail_if_success (have hx := Q5)); go_at_call 21; refine (implBoxSize_any ⟨b.next, lt⟩ _ _ ⟨_, rfl, HT.out _ (by go_grown)⟩).mono ?_; rintro e w5 ⟨rfl, q5⟩; have b5 : Below w4.heap.size w4 w5 := Below.trans (by go_grown) q5; have z5 := (b5.block w1.heap.size z4l).trans Z4.out; obtain ⟨c0, c1, f0, f1⟩ := two_cells z5; rw [hL.out] at c1; have Q5 := Lib.hid b5; rw [X1.out]; clear z5 b5 q5)
              | (have hx := Q5; go_at_call 21; refine (implBoxSize_any ⟨b.next, ld⟩ _ _ ⟨_, rfl, HD.out _ (Below.trans Q5.out (by go_grown))⟩).mono ?_; rintro e w6 ⟨rfl, q6⟩; have b6 : Below w4.heap.size w4 w6 := Below.trans Q5.out (q6.mono Q5.out.size); have z6 := (b6.block w1.heap.size z4l).trans Z4.out; obtain ⟨c0, c1, f0, f1⟩ := two_cells z6; rw [hL.out] at c1; have Q6 := Lib.hid b6; rw [X2.out]; clear z6 hx b6 q6))
            go_wp2_with fail
            go_ret
            exact ⟨ret_bool (by rw [IntWalk.i64_in _ (by have := P.out; omega)]; have := HS.out; simp; omega), bel4.trans (Q6.out.mono bel4.size)⟩)
        · cases h
          by_cases hck : cap2 = k
          · have hLk : b.mail.length = k := by omega
            have hL := Lib.hid hLk
            subst hck
            rw [hLk] at c1
            have hD : ∀ (W : World), Below w4.heap.size w4 W → MailAt W (.slice (some ⟨g, 0, none⟩) 0 0) ld := fun W hW => ⟨_, 0, 0, rfl, by omega, by omega, ⟨by omega, fun e => by cases e⟩, .inl rfl⟩
            have HT := Lib.hid hT; have HD := Lib.hid hD
            clear hT hD HX HB HM hlt hld hlk htk hLk hkI
            have hkI : (cap2 : Int) ≤ (cap2 : Int) := Int.le_refl _
            go_region_held3 (fun W => W.cell? ⟨w1.heap.size, 0, none⟩ = some (.int .i64 b.next) ∧ W.cell? ⟨w1.heap.size, 1, none⟩ = some (.slice (some ⟨g, 0, none⟩) cap2 cap2)) (first | exact ⟨c0, c1⟩ | (go_keep; done))
              (first
              | ((fail_if_success (have hx := Q5)); go_at_call 21; refine (implBoxSize_any ⟨b.next, lt⟩ _ _ ⟨_, rfl, HT.out _ (by go_grown)⟩).mono ?_; rintro e w5 ⟨rfl, q5⟩; have b5 : Below w4.heap.size w4 w5 := Below.trans (by go_grown) q5; have z5 := (b5.block w1.heap.size z4l).trans Z4.out; obtain ⟨c0, c1, f0, f1⟩ := two_cells z5; rw [hL.out] at c1; have Q5 := Lib.hid b5; rw [X1.out]; clear z5 b5 q5)
              | (have hx := Q5; go_at_call 21; refine (implBoxSize_any ⟨b.next, ld⟩ _ _ ⟨_, rfl, HD.out _ (Below.trans Q5.out (by go_grown))⟩).mono ?_; rintro e w6 ⟨rfl, q6⟩; have b6 : Below w4.heap.size w4 w6 := Below.trans Q5.out (q6.mono Q5.out.size); have z6 := (b6.block w1.heap.size z4l).trans Z4.out; obtain ⟨c0, c1, f0, f1⟩ := two_cells z6; rw [hL.out] at c1; have Q6 := Lib.hid b6; rw [X2.out]; clear z6 hx b6 q6))
            go_wp2_with fail
            go_ret
            exact ⟨ret_bool (by rw [IntWalk.i64_in _ (by have := P.out; omega)]; have := HS.out; simp; omega), bel4.trans (Q6.out.mono bel4.size)⟩
          · have hkc : (k : Int) ≤ (cap2 : Int) := by omega
            have hlc : (b.mail.length : Int) ≤ (cap2 : Int) := by omega
            have hD : ∀ (W : World), Below w4.heap.size w4 W → MailAt W (.slice (some ⟨g, k * 3, none⟩) (b.mail.length - k) (cap2 - k)) ld := fun W hW => hld ▸ (MailAt.drop HM.out hk).below hW
            have HT := Lib.hid hT; have HD := Lib.hid hD
            clear hT hD HX HB HM hlt hld hlk htk
            go_region_held3 (fun W => W.cell? ⟨w1.heap.size, 0, none⟩ = some (.int .i64 b.next) ∧ W.cell? ⟨w1.heap.size, 1, none⟩ = some (.slice (some ⟨g, 0, none⟩) b.mail.length cap2)) (first | exact ⟨c0, c1⟩ | (go_keep; done))
              (first
              | ((fail_if_success (have hx := Q5)); go_at_call 21; refine (implBoxSize_any ⟨b.next, lt⟩ _ _ ⟨_, rfl, HT.out _ (by go_grown)⟩).mono ?_; rintro e w5 ⟨rfl, q5⟩; have b5 : Below w4.heap.size w4 w5 := Below.trans (by go_grown) q5; have z5 := (b5.block w1.heap.size z4l).trans Z4.out; obtain ⟨c0, c1, f0, f1⟩ := two_cells z5; have Q5 := Lib.hid b5; rw [X1.out]; clear z5 b5 q5)
              | (have hx := Q5; go_at_call 21; refine (implBoxSize_any ⟨b.next, ld⟩ _ _ ⟨_, rfl, HD.out _ (Below.trans Q5.out (by go_grown))⟩).mono ?_; rintro e w6 ⟨rfl, q6⟩; have b6 : Below w4.heap.size w4 w6 := Below.trans Q5.out (q6.mono Q5.out.size); have z6 := (b6.block w1.heap.size z4l).trans Z4.out; obtain ⟨c0, c1, f0, f1⟩ := two_cells z6; have Q6 := Lib.hid b6; rw [X2.out]; clear z6 hx b6 q6))
            go_wp2_with fail
            go_ret
            exact ⟨ret_bool (by rw [IntWalk.i64_in _ (by have := P.out; omega)]; have := HS.out; simp; omega), bel4.trans (Q6.out.mono bel4.size)⟩
end Go.Proofs.Ytdnogbneajloeaa

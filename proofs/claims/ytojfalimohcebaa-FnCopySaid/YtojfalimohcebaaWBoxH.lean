/- WALKS: the laws of copies. -/
import Derived.Test.YtojfalimohcebaaCopies
import Derived.Test.YtojfalimohcebaaPlaces
import Derived.Test.YtojfalimohcebaaFlLaws
import Derived.IntWalk
namespace Go.Proofs.Ytojfalimohcebaa
open Go.RowKit
set_option linter.unusedVariables false

theorem addTo_len (b : B) (f : Int) (t : ByteArray) : (addTo b f t).1.mail.length ≤ max b.mail.length 10 := by
  unfold addTo; split <;> simp <;> omega
theorem copyFold_len (b : B) : ∀ (ps : List Int) (r : B × Bool), (ps.foldl (copyStep b) r).1.mail.length ≤ max r.1.mail.length 10
  | [], r => by simp; omega
  | p :: ps, r => by
    rw [List.foldl_cons]
    have h1 := copyFold_len b ps (copyStep b r p)
    have h2 : (copyStep b r p).1.mail.length ≤ max r.1.mail.length 10 := by
      unfold copyStep
      split
      · split
        · exact addTo_len _ _ _
        · omega
      · omega
    omega
theorem copyTo_len (b : B) (ps : List Int) (tb : B) (h1 : b.mail.length ≤ 10) (h2 : tb.mail.length ≤ 10) (h3 : ps.length ≤ 11) : (copyTo b ps tb).1.mail.length ≤ 21 := by
  have := copyFold_len b ps (tb, true)
  have e : copyRun b ps tb = ps.foldl (copyStep b) (tb, true) := rfl
  unfold copyTo
  split
  · split
    · rw [e]; dsimp only at this; omega
    · dsimp only; omega
  · simp [nobox]
theorem copyTo_nil {b tb : B} (h1 : bok b = true) (h2 : bok tb = true) : copyTo b [] tb = (tb, true) := by
  rw [copyTo_yes h1 h2 rfl]; rfl
theorem numsOk_mem {c : Nat} {ps : List Int} (h : numsOk c ps = true) : ∀ p ∈ ps, 1 ≤ p ∧ p ≤ c := fun p hp => by
  have := ascN_mem _ _ _ h p hp; omega
theorem copyTo_full {b tb : B} {ps : List Int} (h : (copyTo b ps tb).2 = false) (h1 : bok b = true) (h2 : bok tb = true) :
    (copyTo b ps tb = (nobox, false)) ∨ ((copyTo b ps tb).1 = tb ∧ (10 < tb.mail.length + ps.length ∨ 100 < tb.next + ps.length)) := by
  rcases hn : numsOk b.mail.length ps with _ | _
  · exact .inl (copyTo_no (.inr (.inr hn)))
  · right
    rw [copyTo_yes h1 h2 hn] at h ⊢
    rcases hc : (copyRun b ps tb).2 with _ | _
    · exact ⟨rfl, copyRun_no ps tb (numsOk_mem hn) hc⟩
    · rw [hc] at h; simp [hc] at h
theorem copyTo_ok {b tb : B} {ps : List Int} (h : (copyTo b ps tb).2 = true) :
    bok b = true ∧ bok tb = true ∧ numsOk b.mail.length ps = true ∧ copyTo b ps tb = copyRun b ps tb ∧ (copyRun b ps tb).2 = true := by
  by_cases hc : bok b = true ∧ bok tb = true ∧ numsOk b.mail.length ps = true
  · obtain ⟨h1, h2, h3⟩ := hc
    rw [copyTo_yes h1 h2 h3] at h ⊢
    rcases hc : (copyRun b ps tb).2 with _ | _
    · simp [hc] at h
    · exact ⟨h1, h2, h3, rfl, rfl⟩
  · exfalso
    rw [copyTo_no (by
      rcases h1 : bok b with _ | _
      · exact .inl rfl
      · rcases h2 : bok tb with _ | _
        · exact .inr (.inl rfl)
        · rcases h3 : numsOk b.mail.length ps with _ | _
          · exact .inr (.inr rfl)
          · exact absurd ⟨h1, h2, h3⟩ hc)] at h
    cases h
set_option maxHeartbeats 1000000 in
theorem fnCopyNone.walk (a : Option Addr) (len cap : Nat) (hl : len ≤ cap) (hm : cap ≤ maxLen) (w : World) (hc : CodeAt w a len) :
    Calls Try.prog 10 #[.slice a len cap] w fun e w' => e = .returned (.bool true) ∧ Below w.heap.size w w' := by
  unfold maxLen at hm
  by_cases h1 : 1048576 < len
  · go_enter Try.func10, Try.ntmps10
    go_wp2_with fail
    all_goals go_ret
    all_goals exact ⟨rfl, Below.refl _ _⟩
  go_enter Try.func10, Try.ntmps10
  go_wp2_with fail
  refine (DrawBoxCopy_any a len cap hl w hc).mono ?_
  clear hc
  rintro e w1 ⟨b, a1, cap1, gp, kp, cp, ps, tb, at_, ct, rfl, hb, ⟨hp, hpl, hkp⟩, ht, b1⟩
  have hl10 := hb.1.2.2
  have ht10 := ht.1.2.2
  have hpi := hp.at (by omega)
  obtain ⟨wx, hwx, X, qx, sx⟩ := new_box hb.2 (by omega)
  obtain ⟨wt, hwt, T, qt, st⟩ := new_box (ht.2.below qx) (by omega)
  have zx := X.lt
  replace X := X.below qt
  have bel := (b1.trans (qx.mono b1.size)).trans (qt.mono (Nat.le_trans b1.size qx.size))
  have s1 := b1.size
  have HP := Lib.hid ((hpi.below qx).below qt)
  have HPL := Lib.hid hpl
  have HWX := Lib.hid hwx; have HWT := Lib.hid hwt
  have SX := Lib.hid sx; have ST := Lib.hid st
  clear hwx hwt hb b1 qx qt hp hpi hpl ht sx st
  go_wp2_with fail
  rw [← HWX.out]
  have stx : w1.heap.size + 1 = wx.heap.size := SX.out.symm
  rw [← HWT.out, stx]
  clear stx SX ST
  refine (implBoxCopy_any b tb ps _ _ _ _ X.box HP.out T.box).mono ?_
  rintro e w2 ⟨s, rfl, ho, q2⟩
  obtain ⟨a2, cap2, rfl⟩ := ho.slice
  have hRl : (copyTo b ps tb).1.mail.length ≤ 21 := copyTo_len b ps tb hl10 ht10 (by have := HPL.out; omega)
  obtain ⟨R, hR⟩ : ∃ R, copyTo b ps tb = R := ⟨_, rfl⟩
  rw [hR] at ho hRl ⊢
  have HR := Lib.hid hR
  obtain ⟨wy, hwy, Y, qy, sy⟩ := new_box ho (by omega)
  replace X := X.below q2
  replace T := T.below q2
  replace HP := Lib.hid ((HP.out.below q2).below qy)
  obtain ⟨c0, c1, f0, f1⟩ := X.cells
  obtain ⟨d0, d1, e0, e1⟩ := T.cells
  have n1 := X.lt
  have n1' := T.lt
  have s2 := q2.size
  replace bel := (bel.trans (q2.mono bel.size)).trans (qy.mono (Nat.le_trans bel.size q2.size))
  replace X := X.below qy
  replace T := T.below qy
  clear HWX HWT ho q2 qy hR
  have HW := Lib.hid hwy
  clear hwy sy
  go_wp2_with fail
  rw [← HW.out]
  clear c0 c1 f0 f1 d0 d1 e0 e1
  refine (specBoxCopy_any b tb ps _ _ _ _ X.box HP.out T.box).mono ?_
  rintro e w3 ⟨s, rfl, ho, q3⟩
  obtain ⟨a3, cap3, rfl⟩ := ho.slice
  rw [HR.out] at ho ⊢
  obtain ⟨wz, hwz, Z, qz, sz⟩ := new_box ho (by omega)
  replace X := (X.below q3).below qz
  replace T := (T.below q3).below qz
  replace HP := Lib.hid ((HP.out.below q3).below qz)
  replace Y := Y.below q3
  obtain ⟨c0, c1, f0, f1⟩ := Y.cells
  have n2 := Y.lt
  have s3 := q3.size
  replace Y := Y.below qz
  replace bel := (bel.trans (q3.mono bel.size)).trans (qz.mono (Nat.le_trans bel.size q3.size))
  clear HW ho q3 qz
  have HW := Lib.hid hwz
  clear hwz sz
  go_wp2_with fail
  rw [← HW.out]
  clear c0 c1 f0 f1
  refine (sameBox_any R.1 _ _ _ Y.box Z.box).mono ?_
  rintro e w4 ⟨rfl, q4⟩
  replace X := X.below q4
  replace T := T.below q4
  replace Y := Y.below q4
  replace Z := Z.below q4
  replace HP := Lib.hid (HP.out.below q4)
  have s4 := q4.size
  replace bel := bel.trans (q4.mono bel.size)
  clear HW q4
  obtain ⟨c0, c1, f0, f1⟩ := X.cells
  go_wp2_with fail
  refine (specBoxValid_any b _ _ X.box).mono ?_
  rintro e w5 ⟨rfl, q5⟩
  replace X := X.below q5
  replace T := T.below q5
  replace Y := Y.below q5
  replace Z := Z.below q5
  replace HP := Lib.hid (HP.out.below q5)
  have s5 := q5.size
  replace bel := bel.trans (q5.mono bel.size)
  clear q5 c0 c1 f0 f1
  rcases hbk : bok b with _ | _
  ·
    obtain ⟨c0, c1, f0, f1⟩ := Y.cells
    obtain ⟨d0, d1, e0, e1⟩ := Z.cells
    go_wp2_with fail
    refine (sameBox_any R.1 _ _ _ Y.box Z.box).mono ?_
    rintro e w9 ⟨rfl, q9⟩
    replace bel := bel.trans (q9.mono bel.size)
    clear q9
    go_wp2_with fail
    go_ret
    exact ⟨rfl, bel⟩
  obtain ⟨d0, d1, e0, e1⟩ := T.cells
  go_wp2_with fail
  refine (specBoxValid_any tb _ _ T.box).mono ?_
  rintro e w6 ⟨rfl, q6⟩
  replace X := X.below q6
  replace T := T.below q6
  replace Y := Y.below q6
  replace Z := Z.below q6
  replace HP := Lib.hid (HP.out.below q6)
  have s6 := q6.size
  replace bel := bel.trans (q6.mono bel.size)
  clear q6 d0 d1 e0 e1
  rcases htk : bok tb with _ | _
  ·
    obtain ⟨c0, c1, f0, f1⟩ := Y.cells
    obtain ⟨d0, d1, e0, e1⟩ := Z.cells
    go_wp2_with fail
    refine (sameBox_any R.1 _ _ _ Y.box Z.box).mono ?_
    rintro e w9 ⟨rfl, q9⟩
    replace bel := bel.trans (q9.mono bel.size)
    clear q9
    go_wp2_with fail
    go_ret
    exact ⟨rfl, bel⟩
  clear Z
  have HN := Lib.hid (copyTo_nil hbk htk)
  obtain ⟨c0, c1, f0, f1⟩ := X.cells
  obtain ⟨d0, d1, e0, e1⟩ := T.cells
  have zx' := X.lt
  have zt' := T.lt
  obtain ⟨wn, hwn⟩ : ∃ wn, wn = w6.alloc (.cells #[] 3) := ⟨_, rfl⟩
  have qn : Below w6.heap.size w6 wn := by rw [hwn]; exact (Below.refl _ _).alloc (Nat.le_refl _) _
  have hni : IntsAt wn (.slice (some ⟨w6.heap.size, 0, none⟩) 0 0) [] := ⟨_, 0, 0, rfl, rfl, by omega, ⟨by omega, fun e => by cases e⟩, .inl rfl⟩
  replace bel := bel.trans (qn.mono bel.size)
  replace X := X.below qn
  replace T := T.below qn
  have HWN := Lib.hid hwn
  clear hwn qn hbk htk HR Y HP
  go_wp2_with fail
  rw [← HWN.out]
  clear c0 c1 f0 f1 d0 d1 e0 e1
  refine (implBoxCopy_any b tb [] _ _ _ _ X.box hni T.box).mono ?_
  rintro e w7 ⟨s, rfl, ho, q7⟩
  obtain ⟨a7, cap7, rfl⟩ := ho.slice
  rw [HN.out] at ho ⊢
  dsimp only at ho ⊢
  obtain ⟨wy, hwy, Z, qy, sy⟩ := new_box ho (by omega)
  replace T := T.below q7
  obtain ⟨d0, d1, e0, e1⟩ := T.cells
  have n7 := T.lt
  replace T := T.below qy
  replace bel := (bel.trans (q7.mono bel.size)).trans (qy.mono (Nat.le_trans bel.size q7.size))
  have HW := Lib.hid hwy
  clear hwy ho q7 qy HWN
  go_wp2_with fail
  rw [← HW.out]
  refine (sameBox_any tb _ _ _ Z.box T.box).mono ?_
  rintro e w8 ⟨rfl, q8⟩
  replace bel := bel.trans (q8.mono bel.size)
  clear q8
  go_wp2_with fail
  go_ret
  exact ⟨rfl, bel⟩
set_option maxHeartbeats 1000000 in
theorem fnCopyFull.walk (a : Option Addr) (len cap : Nat) (hl : len ≤ cap) (hm : cap ≤ maxLen) (w : World) (hc : CodeAt w a len) :
    Calls Try.prog 9 #[.slice a len cap] w fun e w' => e = .returned (.bool true) ∧ Below w.heap.size w w' := by
  unfold maxLen at hm
  by_cases h1 : 1048576 < len
  · go_enter Try.func9, Try.ntmps9
    go_wp2_with fail
    all_goals go_ret
    all_goals exact ⟨rfl, Below.refl _ _⟩
  go_enter Try.func9, Try.ntmps9
  go_wp2_with fail
  refine (DrawBoxCopy_any a len cap hl w hc).mono ?_
  clear hc
  rintro e w1 ⟨b, a1, cap1, gp, kp, cp, ps, tb, at_, ct, rfl, hb, ⟨hp, hpl, hkp⟩, ht, b1⟩
  have hl10 := hb.1.2.2
  have ht10 := ht.1.2.2
  have hpi := hp.at (by omega)
  obtain ⟨wx, hwx, X, qx, sx⟩ := new_box hb.2 (by omega)
  obtain ⟨wt, hwt, T, qt, st⟩ := new_box (ht.2.below qx) (by omega)
  have zx := X.lt
  replace X := X.below qt
  have bel := (b1.trans (qx.mono b1.size)).trans (qt.mono (Nat.le_trans b1.size qx.size))
  have s1 := b1.size
  have HP := Lib.hid ((hpi.below qx).below qt)
  have HPL := Lib.hid hpl
  have HWX := Lib.hid hwx; have HWT := Lib.hid hwt
  have SX := Lib.hid sx; have ST := Lib.hid st
  clear hwx hwt hb b1 qx qt hp hpi hpl ht sx st
  go_wp2_with fail
  rw [← HWX.out]
  have stx : w1.heap.size + 1 = wx.heap.size := SX.out.symm
  rw [← HWT.out, stx]
  clear stx SX ST
  refine (implBoxCopy_any b tb ps _ _ _ _ X.box HP.out T.box).mono ?_
  rintro e w2 ⟨s, rfl, ho, q2⟩
  obtain ⟨a2, cap2, rfl⟩ := ho.slice
  have hRl : (copyTo b ps tb).1.mail.length ≤ 21 := copyTo_len b ps tb hl10 ht10 (by have := HPL.out; omega)
  obtain ⟨R, hR⟩ : ∃ R, copyTo b ps tb = R := ⟨_, rfl⟩
  rw [hR] at ho hRl ⊢
  have HR := Lib.hid hR
  obtain ⟨wy, hwy, Y, qy, sy⟩ := new_box ho (by omega)
  replace X := X.below q2
  replace T := T.below q2
  replace HP := Lib.hid ((HP.out.below q2).below qy)
  obtain ⟨c0, c1, f0, f1⟩ := X.cells
  obtain ⟨d0, d1, e0, e1⟩ := T.cells
  have n1 := X.lt
  have n1' := T.lt
  have s2 := q2.size
  replace bel := (bel.trans (q2.mono bel.size)).trans (qy.mono (Nat.le_trans bel.size q2.size))
  replace X := X.below qy
  replace T := T.below qy
  clear HWX HWT ho q2 qy hR
  have HW := Lib.hid hwy
  clear hwy sy
  go_wp2_with fail
  rw [← HW.out]
  clear c0 c1 f0 f1 d0 d1 e0 e1
  refine (specBoxCopy_any b tb ps _ _ _ _ X.box HP.out T.box).mono ?_
  rintro e w3 ⟨s, rfl, ho, q3⟩
  obtain ⟨a3, cap3, rfl⟩ := ho.slice
  rw [HR.out] at ho ⊢
  obtain ⟨wz, hwz, Z, qz, sz⟩ := new_box ho (by omega)
  replace X := (X.below q3).below qz
  replace T := (T.below q3).below qz
  replace HP := Lib.hid ((HP.out.below q3).below qz)
  replace Y := Y.below q3
  obtain ⟨c0, c1, f0, f1⟩ := Y.cells
  have n2 := Y.lt
  have s3 := q3.size
  replace Y := Y.below qz
  replace bel := (bel.trans (q3.mono bel.size)).trans (qz.mono (Nat.le_trans bel.size q3.size))
  clear HW ho q3 qz
  have HW := Lib.hid hwz
  clear hwz sz
  go_wp2_with fail
  rw [← HW.out]
  clear c0 c1 f0 f1
  refine (sameBox_any R.1 _ _ _ Y.box Z.box).mono ?_
  rintro e w4 ⟨rfl, q4⟩
  replace X := X.below q4
  replace T := T.below q4
  replace Y := Y.below q4
  replace Z := Z.below q4
  replace HP := Lib.hid (HP.out.below q4)
  have s4 := q4.size
  replace bel := bel.trans (q4.mono bel.size)
  clear HW q4
  rcases hR2 : R.2 with _ | _
  ·
    obtain ⟨c0, c1, f0, f1⟩ := X.cells
    go_wp2_with fail
    refine (specBoxValid_any b _ _ X.box).mono ?_
    rintro e w5 ⟨rfl, q5⟩
    replace X := X.below q5
    replace T := T.below q5
    replace Y := Y.below q5
    replace Z := Z.below q5
    replace HP := Lib.hid (HP.out.below q5)
    have s5 := q5.size
    replace bel := bel.trans (q5.mono bel.size)
    clear q5 c0 c1 f0 f1
    rcases hbk : bok b with _ | _
    ·
      obtain ⟨c0, c1, f0, f1⟩ := Y.cells
      obtain ⟨d0, d1, e0, e1⟩ := Z.cells
      go_wp2_with fail
      refine (sameBox_any R.1 _ _ _ Y.box Z.box).mono ?_
      rintro e w9 ⟨rfl, q9⟩
      replace bel := bel.trans (q9.mono bel.size)
      clear q9
      go_wp2_with fail
      go_ret
      exact ⟨rfl, bel⟩
    obtain ⟨d0, d1, e0, e1⟩ := T.cells
    go_wp2_with fail
    refine (specBoxValid_any tb _ _ T.box).mono ?_
    rintro e w6 ⟨rfl, q6⟩
    replace X := X.below q6
    replace T := T.below q6
    replace Y := Y.below q6
    replace Z := Z.below q6
    replace HP := Lib.hid (HP.out.below q6)
    have s6 := q6.size
    replace bel := bel.trans (q6.mono bel.size)
    clear q6 d0 d1 e0 e1
    rcases htk : bok tb with _ | _
    ·
      obtain ⟨c0, c1, f0, f1⟩ := Y.cells
      obtain ⟨d0, d1, e0, e1⟩ := Z.cells
      go_wp2_with fail
      refine (sameBox_any R.1 _ _ _ Y.box Z.box).mono ?_
      rintro e w9 ⟨rfl, q9⟩
      replace bel := bel.trans (q9.mono bel.size)
      clear q9
      go_wp2_with fail
      go_ret
      exact ⟨rfl, bel⟩
    clear Z
    have hful := copyTo_full (b := b) (tb := tb) (ps := ps) (by rw [HR.out]; exact hR2) hbk htk
    rw [HR.out] at hful
    obtain ⟨htn1, htn2, _⟩ := bok_next htk
    rcases hful with hful | ⟨hRe, hful⟩
    · subst hful
      clear X T HR
      obtain ⟨c0, c1, f0, f1⟩ := Y.cells
      go_wp2_with fail
      go_ret
      exact ⟨rfl, bel⟩
    · rw [hRe] at Y
      have HRE := Lib.hid hRe
      have hk := HPL.out
      clear HR X hRe
      obtain ⟨c0, c1, f0, f1⟩ := Y.cells
      obtain ⟨d0, d1, e0, e1⟩ := T.cells
      have hz : ((tb.next == 0)) = false := beq_eq_false_iff_ne.2 (by omega)
      rw [hk] at hful
      go_wp2_with fail
      · have hml : tb.mail = [] := by assumption
        have hl0 : tb.mail.length = 0 := by rw [hml]; rfl
        have YB := Y.box
        have TB := T.box
        rw [hl0] at YB TB
        refine (sameBox_any tb _ _ _ YB TB).mono ?_
        rintro e w8 ⟨rfl, q8⟩
        replace T := T.below q8
        replace bel := bel.trans (q8.mono bel.size)
        obtain ⟨d0, d1, e0, e1⟩ := T.cells
        clear q8 YB TB Y c0 c1 f0 f1
        go_wp2_with fail
        all_goals go_ret
        all_goals refine ⟨congrArg (fun z => Ending.returned (Value.bool z)) (a₂ := true) ?_, bel⟩
        all_goals simp
        all_goals omega
      · refine (sameBox_any tb _ _ _ Y.box T.box).mono ?_
        rintro e w8 ⟨rfl, q8⟩
        replace T := T.below q8
        replace bel := bel.trans (q8.mono bel.size)
        clear d0 d1 e0 e1
        obtain ⟨d0, d1, e0, e1⟩ := T.cells
        clear q8 Y c0 c1 f0 f1
        go_wp2_with fail
        all_goals go_ret
        all_goals refine ⟨congrArg (fun z => Ending.returned (Value.bool z)) (a₂ := true) ?_, bel⟩
        all_goals simp
        all_goals omega
  ·
    obtain ⟨c0, c1, f0, f1⟩ := Y.cells
    obtain ⟨d0, d1, e0, e1⟩ := Z.cells
    go_wp2_with fail
    refine (sameBox_any R.1 _ _ _ Y.box Z.box).mono ?_
    rintro e w9 ⟨rfl, q9⟩
    replace bel := bel.trans (q9.mono bel.size)
    clear q9
    go_wp2_with fail
    go_ret
    exact ⟨rfl, bel⟩
end Go.Proofs.Ytojfalimohcebaa

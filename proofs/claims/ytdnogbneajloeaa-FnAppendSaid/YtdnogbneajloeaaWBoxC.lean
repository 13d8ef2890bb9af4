/- WALKS: the laws of appending. -/
import Derived.Test.YtdnogbneajloeaaBoxCell
import Derived.Test.YtdnogbneajloeaaSize
import Derived.Test.YtdnogbneajloeaaText
import Derived.IntWalk
namespace Go.Proofs.Ytdnogbneajloeaa
open Go.RowKit
set_option linter.unusedVariables false

set_option maxHeartbeats 400000 in
theorem fnAppendOld.walk (a : Option Addr) (len cap : Nat) (hl : len ≤ cap) (hm : cap ≤ maxLen) (w : World) (hc : CodeAt w a len) :
    Calls Try.prog 10 #[.slice a len cap] w fun e w' => e = .returned (.bool true) ∧ Below w.heap.size w w' := by
  unfold maxLen at hm
  by_cases h1 : 1048576 < len
  · go_enter Try.func10, Try.ntmps10
    go_wp2_with fail
    all_goals go_ret
    all_goals exact ⟨rfl, Below.refl _ _⟩
  go_enter Try.func10, Try.ntmps10
  go_wp2_with fail
  refine (DrawBoxAppend_any a len cap hl w hc).mono ?_
  clear hc
  rintro e w1 ⟨b, a1, cap1, f, t, rfl, hb, b1⟩
  have hl10 := hb.1.2.2
  have hnx := hb.1.1
  have hnx2 := hb.1.2.1
  obtain ⟨wx, hwx, X, qx, sx⟩ := new_box hb.2 (by omega)
  have bel := b1.trans (qx.mono b1.size)
  have s1 := b1.size
  have HW := Lib.hid hwx
  clear hwx hb b1 qx
  go_wp2_with fail
  rw [← HW.out]
  refine (implBoxAppend_any b f t _ _ X.box).mono ?_
  rintro e w2 ⟨s, rfl, ho, q2⟩
  obtain ⟨a2, cap2, rfl⟩ := ho.slice
  have hRl := appendTo_len b f t hl10
  have hok := @appendTo_ok b f t
  have hno := @appendTo_full b f t
  obtain ⟨R, hR⟩ : ∃ R, appendTo b f t = R := ⟨_, rfl⟩
  rw [hR] at ho hRl hok hno ⊢
  have HR := Lib.hid hR; have HOK := Lib.hid hok; have HNO := Lib.hid hno
  obtain ⟨wy, hwy, Y, qy, sy⟩ := new_box ho (by omega)
  replace X := X.below q2
  obtain ⟨c0, c1, f0, f1⟩ := X.cells
  have n1 := X.lt
  have s2 := q2.size
  replace bel := (bel.trans (q2.mono bel.size)).trans (qy.mono (Nat.le_trans bel.size q2.size))
  replace X := X.below qy
  clear HW ho q2 qy hR hok hno
  have HW := Lib.hid hwy
  clear hwy
  go_wp2_with fail
  rw [← HW.out]
  clear c0 c1 f0 f1
  refine (specBoxAppend_any b f t _ _ X.box).mono ?_
  rintro e w3 ⟨s, rfl, ho, q3⟩
  obtain ⟨a3, cap3, rfl⟩ := ho.slice
  rw [HR.out] at ho ⊢
  obtain ⟨wz, hwz, Z, qz, sz⟩ := new_box ho (by omega)
  replace X := (X.below q3).below qz
  replace Y := Y.below q3
  obtain ⟨c0, c1, f0, f1⟩ := Y.cells
  have n2 := Y.lt
  have s3 := q3.size
  replace Y := Y.below qz
  replace bel := (bel.trans (q3.mono bel.size)).trans (qz.mono (Nat.le_trans bel.size q3.size))
  clear HW ho q3 qz
  have HW := Lib.hid hwz
  clear hwz
  go_wp2_with fail
  rw [← HW.out]
  clear c0 c1 f0 f1
  refine (sameBox_any R.1 _ _ _ Y.box Z.box).mono ?_
  rintro e w4 ⟨rfl, q4⟩
  replace X := X.below q4
  replace Y := Y.below q4
  replace Z := Z.below q4
  have s4 := q4.size
  replace bel := bel.trans (q4.mono bel.size)
  clear HW q4
  rcases hR2 : R.2 with _ | _
  ·
    obtain ⟨c0, c1, f0, f1⟩ := Y.cells
    obtain ⟨d0, d1, e0, e1⟩ := Z.cells
    go_wp2_with fail
    refine (sameBox_any R.1 _ _ _ Y.box Z.box).mono ?_
    rintro e w9 ⟨rfl, q9⟩
    replace bel := bel.trans (q9.mono bel.size)
    clear q9
    go_wp2_with fail
    go_ret
    exact ⟨rfl, bel⟩
  ·
    obtain ⟨o1, o2, o3, o4, o5, hRe, o7⟩ := HOK.out hR2
    clear HOK HNO HR hRl hR2
    subst hRe
    have hlen : (b.mail ++ [(⟨b.next, f, t⟩ : M)]).length = b.mail.length + 1 := by simp
    replace Y : BoxCell w4 w2.heap.size wx.heap.size ⟨b.next + 1, b.mail ++ [⟨b.next, f, t⟩]⟩ a2 cap2 := Y
    replace Z : BoxCell w4 w3.heap.size wy.heap.size ⟨b.next + 1, b.mail ++ [⟨b.next, f, t⟩]⟩ a3 cap3 := Z
    dsimp only
    rw [hlen]
    have HM1 := Lib.hid (show MailAt w4 (.slice a2 b.mail.length cap2) b.mail by
      have := Y.mail.take (k := b.mail.length) (by dsimp only; omega)
      rwa [List.take_left] at this)
    have HX := Lib.hid X
    have HY := Lib.hid Y
    have hk1 := Y.caps
    obtain ⟨c0, c1, f0, f1⟩ := X.cells
    obtain ⟨d0, d1, e0, e1⟩ := Y.cells
    dsimp only at d0 d1 hk1
    rw [hlen] at d1 hk1
    have HD := Lib.hid hlen
    have hk2 : (b.mail.length : Int) ≤ (cap2 : Int) := by omega
    clear hlen X Y Z
    go_wp2_with fail
    go_region_held3 (fun W => W.cell? ⟨w1.heap.size, 1, none⟩ = some (.slice a1 b.mail.length cap1) ∧ W.cell? ⟨w2.heap.size, 1, none⟩ = some (.slice a2 (b.mail.length + 1) cap2)) (first | exact ⟨c1, d1⟩ | (go_keep; done))
      ((go_at_call 28; refine (sameMail_any b.mail _ _ _ (HM1.out.below (by go_grown)) (HX.out.mail.below (by go_grown))).mono ?_; rintro e w5 ⟨rfl, q5⟩; have b5 : Below w4.heap.size w4 w5 := Below.trans (by go_grown) q5;
        obtain ⟨c0, c1, f0, f1⟩ := (HX.out.below b5).cells; obtain ⟨d0, d1, e0, e1⟩ := (HY.out.below b5).cells; dsimp only at d0 d1; rw [HD.out] at d1; clear q5))
    go_wp2_with fail
    go_ret
    exact ⟨rfl, bel.trans (b5.mono bel.size)⟩
theorem size_more {b : B} {m : M} {n : Int} (h : bok b = true) (h' : bok ⟨n, b.mail ++ [m]⟩ = true) : ∃ k : Nat, k ≤ 200 ∧ sizeOf b = (k : Int) ∧ sizeOf ⟨n, b.mail ++ [m]⟩ = (k : Int) + (m.text.size : Int) := by
  have hl := (bok_next h).2.2
  have h1 := bytesOf_le b.mail (bok_mok h)
  refine ⟨bytesOf b.mail, by omega, by simp [sizeOf, h], ?_⟩
  simp only [sizeOf, h', if_true, bytesOf_append]
  simp [bytesOf]
set_option maxHeartbeats 400000 in
theorem fnSize.walk (a : Option Addr) (len cap : Nat) (hl : len ≤ cap) (hm : cap ≤ maxLen) (w : World) (hc : CodeAt w a len) :
    Calls Try.prog 13 #[.slice a len cap] w fun e w' => e = .returned (.bool true) ∧ Below w.heap.size w w' := by
  unfold maxLen at hm
  by_cases h1 : 1048576 < len
  · go_enter Try.func13, Try.ntmps13
    go_wp2_with fail
    all_goals go_ret
    all_goals exact ⟨rfl, Below.refl _ _⟩
  go_enter Try.func13, Try.ntmps13
  go_wp2_with fail
  refine (DrawBoxAppend_any a len cap hl w hc).mono ?_
  clear hc
  rintro e w1 ⟨b, a1, cap1, f, t, rfl, hb, b1⟩
  have hl10 := hb.1.2.2
  have hnx := hb.1.1
  have hnx2 := hb.1.2.1
  obtain ⟨wx, hwx, X, qx, sx⟩ := new_box hb.2 (by omega)
  have bel := b1.trans (qx.mono b1.size)
  have s1 := b1.size
  have HW := Lib.hid hwx
  clear hwx hb b1 qx
  go_wp2_with fail
  rw [← HW.out]
  refine (implBoxAppend_any b f t _ _ X.box).mono ?_
  rintro e w2 ⟨s, rfl, ho, q2⟩
  obtain ⟨a2, cap2, rfl⟩ := ho.slice
  have hRl := appendTo_len b f t hl10
  have hok := @appendTo_ok b f t
  have hno := @appendTo_full b f t
  obtain ⟨R, hR⟩ : ∃ R, appendTo b f t = R := ⟨_, rfl⟩
  rw [hR] at ho hRl hok hno ⊢
  have HR := Lib.hid hR; have HOK := Lib.hid hok; have HNO := Lib.hid hno
  obtain ⟨wy, hwy, Y, qy, sy⟩ := new_box ho (by omega)
  replace X := X.below q2
  obtain ⟨c0, c1, f0, f1⟩ := X.cells
  have n1 := X.lt
  have s2 := q2.size
  replace bel := (bel.trans (q2.mono bel.size)).trans (qy.mono (Nat.le_trans bel.size q2.size))
  replace X := X.below qy
  clear HW ho q2 qy hR hok hno
  have HW := Lib.hid hwy
  clear hwy
  go_wp2_with fail
  rw [← HW.out]
  clear c0 c1 f0 f1
  refine (specBoxAppend_any b f t _ _ X.box).mono ?_
  rintro e w3 ⟨s, rfl, ho, q3⟩
  obtain ⟨a3, cap3, rfl⟩ := ho.slice
  rw [HR.out] at ho ⊢
  obtain ⟨wz, hwz, Z, qz, sz⟩ := new_box ho (by omega)
  replace X := (X.below q3).below qz
  replace Y := Y.below q3
  obtain ⟨c0, c1, f0, f1⟩ := Y.cells
  have n2 := Y.lt
  have s3 := q3.size
  replace Y := Y.below qz
  replace bel := (bel.trans (q3.mono bel.size)).trans (qz.mono (Nat.le_trans bel.size q3.size))
  clear HW ho q3 qz
  have HW := Lib.hid hwz
  clear hwz
  go_wp2_with fail
  rw [← HW.out]
  clear c0 c1 f0 f1
  refine (sameBox_any R.1 _ _ _ Y.box Z.box).mono ?_
  rintro e w4 ⟨rfl, q4⟩
  replace X := X.below q4
  replace Y := Y.below q4
  replace Z := Z.below q4
  have s4 := q4.size
  replace bel := bel.trans (q4.mono bel.size)
  clear HW q4
  rcases hR2 : R.2 with _ | _
  ·
    obtain ⟨c0, c1, f0, f1⟩ := Y.cells
    obtain ⟨d0, d1, e0, e1⟩ := Z.cells
    go_wp2_with fail
    refine (sameBox_any R.1 _ _ _ Y.box Z.box).mono ?_
    rintro e w9 ⟨rfl, q9⟩
    replace bel := bel.trans (q9.mono bel.size)
    clear q9
    go_wp2_with fail
    go_ret
    exact ⟨rfl, bel⟩
  ·
    obtain ⟨o1, o2, o3, o4, o5, hRe, o7⟩ := HOK.out hR2
    clear HOK HNO HR hRl hR2
    subst hRe
    have hlen : (b.mail ++ [(⟨b.next, f, t⟩ : M)]).length = b.mail.length + 1 := by simp
    replace Y : BoxCell w4 w2.heap.size wx.heap.size ⟨b.next + 1, b.mail ++ [⟨b.next, f, t⟩]⟩ a2 cap2 := Y
    replace Z : BoxCell w4 w3.heap.size wy.heap.size ⟨b.next + 1, b.mail ++ [⟨b.next, f, t⟩]⟩ a3 cap3 := Z
    dsimp only
    rw [hlen]
    obtain ⟨k, hk, k1, k2⟩ := size_more o1 o7
    dsimp only at k2
    have HX := Lib.hid X
    have HY := Lib.hid Y
    have K1 := Lib.hid k1; have K2 := Lib.hid k2
    obtain ⟨c0, c1, f0, f1⟩ := X.cells
    obtain ⟨d0, d1, e0, e1⟩ := Y.cells
    dsimp only at d0 d1
    rw [hlen] at d1
    have hY2 := fun (W : World) (hW : Below w4.heap.size w4 W) => implBoxSize_any ⟨b.next + 1, b.mail ++ [⟨b.next, f, t⟩]⟩ (.agg #[.int .i64 (b.next + 1), .slice a2 (b.mail.length + 1) cap2]) W (by have := (Y.below hW).box; dsimp only at this; rwa [hlen] at this)
    rw [k2] at hY2
    have hX2 := fun (W : World) (hW : Below w4.heap.size w4 W) => implBoxSize_any b (.agg #[.int .i64 b.next, .slice a1 b.mail.length cap1]) W (X.below hW).box
    rw [k1] at hX2
    have CY := Lib.hid hY2; have CX := Lib.hid hX2
    have HD := Lib.hid hlen
    have hw : IntKind.i64.wrap ((k : Int) + (t.size : Int)) = (k : Int) + (t.size : Int) := IntWalk.i64_in _ (by omega)
    have HWR := Lib.hid hw
    clear hlen X Y Z k1 k2 hY2 hX2 hw
    go_wp2_with fail
    go_region_held3 (fun W => (W.cell? ⟨w1.heap.size, 0, none⟩ = some (.int .i64 b.next) ∧ W.cell? ⟨w1.heap.size, 1, none⟩ = some (.slice a1 b.mail.length cap1)) ∧ W.cell? ⟨w2.heap.size, 0, none⟩ = some (.int .i64 (b.next + 1)) ∧ W.cell? ⟨w2.heap.size, 1, none⟩ = some (.slice a2 (b.mail.length + 1) cap2)) (first | exact ⟨⟨c0, c1⟩, d0, d1⟩ | (go_keep; done))
      (first
      | (have hx := Q5; (go_at_call 21; ((with_reducible refine (CY.out _ (Below.trans Q5.out (by go_grown))).mono ?_); rintro e w6 ⟨rfl, q6⟩; have b6 : Below w4.heap.size w4 w6 := Below.trans (Below.trans Q5.out (by go_grown)) (q6.mono (show w4.heap.size ≤ _ from z5)); obtain ⟨c0, c1, f0, f1⟩ := (HX.out.below b6).cells; obtain ⟨d0, d1, e0, e1⟩ := (HY.out.below b6).cells; dsimp only at d0 d1; rw [HD.out] at d1; clear q6 hx)))
      | (have hx := Q5; (go_at_call 21; ((with_reducible refine (CX.out _ (Below.trans Q5.out (by go_grown))).mono ?_); rintro e w6 ⟨rfl, q6⟩; have b6 : Below w4.heap.size w4 w6 := Below.trans (Below.trans Q5.out (by go_grown)) (q6.mono (show w4.heap.size ≤ _ from z5)); obtain ⟨c0, c1, f0, f1⟩ := (HX.out.below b6).cells; obtain ⟨d0, d1, e0, e1⟩ := (HY.out.below b6).cells; dsimp only at d0 d1; rw [HD.out] at d1; clear q6 hx)))
      | (go_at_call 21; ((with_reducible refine (CY.out _ (by go_grown)).mono ?_); rintro e w5 ⟨rfl, q5⟩; have b5 : Below w4.heap.size w4 w5 := Below.trans (by go_grown) q5; have Q5 := Lib.hid b5; have z5 := b5.size; obtain ⟨c0, c1, f0, f1⟩ := (HX.out.below b5).cells; obtain ⟨d0, d1, e0, e1⟩ := (HY.out.below b5).cells; dsimp only at d0 d1; rw [HD.out] at d1; clear b5 q5))
      | (go_at_call 21; ((with_reducible refine (CX.out _ (by go_grown)).mono ?_); rintro e w5 ⟨rfl, q5⟩; have b5 : Below w4.heap.size w4 w5 := Below.trans (by go_grown) q5; have Q5 := Lib.hid b5; have z5 := b5.size; obtain ⟨c0, c1, f0, f1⟩ := (HX.out.below b5).cells; obtain ⟨d0, d1, e0, e1⟩ := (HY.out.below b5).cells; dsimp only at d0 d1; rw [HD.out] at d1; clear b5 q5)))
    all_goals
      go_wp2_with fail
      go_ret
      exact ⟨ret_bool (by rw [HWR.out]; simp), bel.trans (b6.mono bel.size)⟩
set_option maxHeartbeats 400000 in
theorem fnAppendFull.walk (a : Option Addr) (len cap : Nat) (hl : len ≤ cap) (hm : cap ≤ maxLen) (w : World) (hc : CodeAt w a len) :
    Calls Try.prog 14 #[.slice a len cap] w fun e w' => e = .returned (.bool true) ∧ Below w.heap.size w w' := by
  unfold maxLen at hm
  by_cases h1 : 1048576 < len
  · go_enter Try.func14, Try.ntmps14
    go_wp2_with fail
    all_goals go_ret
    all_goals exact ⟨rfl, Below.refl _ _⟩
  go_enter Try.func14, Try.ntmps14
  go_wp2_with fail
  refine (DrawBoxAppend_any a len cap hl w hc).mono ?_
  clear hc
  rintro e w1 ⟨b, a1, cap1, f, t, rfl, hb, b1⟩
  have hl10 := hb.1.2.2
  have hnx := hb.1.1
  have hnx2 := hb.1.2.1
  obtain ⟨wx, hwx, X, qx, sx⟩ := new_box hb.2 (by omega)
  have bel := b1.trans (qx.mono b1.size)
  have s1 := b1.size
  have HW := Lib.hid hwx
  clear hwx hb b1 qx
  go_wp2_with fail
  rw [← HW.out]
  refine (implBoxAppend_any b f t _ _ X.box).mono ?_
  rintro e w2 ⟨s, rfl, ho, q2⟩
  obtain ⟨a2, cap2, rfl⟩ := ho.slice
  have hRl := appendTo_len b f t hl10
  have hok := @appendTo_ok b f t
  have hno := @appendTo_full b f t
  obtain ⟨R, hR⟩ : ∃ R, appendTo b f t = R := ⟨_, rfl⟩
  rw [hR] at ho hRl hok hno ⊢
  have HR := Lib.hid hR; have HOK := Lib.hid hok; have HNO := Lib.hid hno
  obtain ⟨wy, hwy, Y, qy, sy⟩ := new_box ho (by omega)
  replace X := X.below q2
  obtain ⟨c0, c1, f0, f1⟩ := X.cells
  have n1 := X.lt
  have s2 := q2.size
  replace bel := (bel.trans (q2.mono bel.size)).trans (qy.mono (Nat.le_trans bel.size q2.size))
  replace X := X.below qy
  clear HW ho q2 qy hR hok hno
  have HW := Lib.hid hwy
  clear hwy
  go_wp2_with fail
  rw [← HW.out]
  clear c0 c1 f0 f1
  refine (specBoxAppend_any b f t _ _ X.box).mono ?_
  rintro e w3 ⟨s, rfl, ho, q3⟩
  obtain ⟨a3, cap3, rfl⟩ := ho.slice
  rw [HR.out] at ho ⊢
  obtain ⟨wz, hwz, Z, qz, sz⟩ := new_box ho (by omega)
  replace X := (X.below q3).below qz
  replace Y := Y.below q3
  obtain ⟨c0, c1, f0, f1⟩ := Y.cells
  have n2 := Y.lt
  have s3 := q3.size
  replace Y := Y.below qz
  replace bel := (bel.trans (q3.mono bel.size)).trans (qz.mono (Nat.le_trans bel.size q3.size))
  clear HW ho q3 qz
  have HW := Lib.hid hwz
  clear hwz
  go_wp2_with fail
  rw [← HW.out]
  clear c0 c1 f0 f1
  refine (sameBox_any R.1 _ _ _ Y.box Z.box).mono ?_
  rintro e w4 ⟨rfl, q4⟩
  replace X := X.below q4
  replace Y := Y.below q4
  replace Z := Z.below q4
  have s4 := q4.size
  replace bel := bel.trans (q4.mono bel.size)
  clear HW q4
  rcases hR2 : R.2 with _ | _
  · obtain ⟨b0, b1, b2, b3⟩ := X.cells
    go_wp2_with fail
    refine (specBoxValid_any b _ _ X.box).mono ?_
    rintro e w5 ⟨rfl, q5⟩
    replace bel := bel.trans (q5.mono bel.size)
    replace X := X.below q5
    replace Y := Y.below q5
    replace Z := Z.below q5
    have s5 := q5.size
    clear q5 b0 b1 b2 b3
    rcases hbk : bok b with _ | _
    ·
      obtain ⟨c0, c1, f0, f1⟩ := Y.cells
      obtain ⟨d0, d1, e0, e1⟩ := Z.cells
      go_wp2_with fail
      refine (sameBox_any R.1 _ _ _ Y.box Z.box).mono ?_
      rintro e w9 ⟨rfl, q9⟩
      replace bel := bel.trans (q9.mono bel.size)
      clear q9
      go_wp2_with fail
      go_ret
      exact ⟨rfl, bel⟩
    · by_cases ht : t.size ≤ 20
      · go_wp2_with fail
        refine (specFlagsText_any f _).mono ?_
        rintro e w6 ⟨s, rfl, hs, q6⟩
        replace bel := bel.trans (q6.mono bel.size)
        replace X := X.below q6
        replace Y := Y.below q6
        replace Z := Z.below q6
        have s6 := q6.size
        clear q6
        rcases hf : fok f with _ | _
        · have x3 := txt_nil hs hf
          clear hs
          obtain ⟨c0, c1, f0, f1⟩ := Y.cells
          obtain ⟨d0, d1, e0, e1⟩ := Z.cells
          go_wp2_with fail
          refine (sameBox_any R.1 _ _ _ Y.box Z.box).mono ?_
          rintro e w9 ⟨rfl, q9⟩
          replace bel := bel.trans (q9.mono bel.size)
          clear q9
          go_wp2_with fail
          go_ret
          exact ⟨rfl, bel⟩
        · have x3 := txt_ne hs hf
          have x4 := isEmpty_no x3
          have hfin := HNO.out hR2 hbk hf ht
          obtain ⟨hRe, hfull⟩ := hfin
          rw [hRe] at Y
          clear hs HOK HNO HR
          obtain ⟨b0, b1, b2, b3⟩ := X.cells
          obtain ⟨c0, c1, f0, f1⟩ := Y.cells
          have HX := Lib.hid X
          go_wp2_with fail
          refine (sameBox_any b _ _ _ Y.box X.box).mono ?_
          rintro e w9 ⟨rfl, q9⟩
          replace bel := bel.trans (q9.mono bel.size)
          replace X := X.below q9
          clear q9 b0 b1 b2 b3 c0 c1 f0 f1 HX
          obtain ⟨b0, b1, b2, b3⟩ := X.cells
          have hgo : (((b.mail.length : Int) == 10) = true) ∨ ((((b.mail.length : Int) == 10) = false) ∧ 99 < b.next) := by
            by_cases h : b.mail.length = 10
            · left; simp; omega
            · right; exact ⟨beq_eq_false_iff_ne.2 (by omega), by omega⟩
          clear hfull
          rcases hgo with hgo | ⟨hgo, hgo2⟩
          all_goals
            go_wp2_with fail
            go_ret
            exact ⟨rfl, bel⟩
      ·
        obtain ⟨c0, c1, f0, f1⟩ := Y.cells
        obtain ⟨d0, d1, e0, e1⟩ := Z.cells
        go_wp2_with fail
        refine (sameBox_any R.1 _ _ _ Y.box Z.box).mono ?_
        rintro e w9 ⟨rfl, q9⟩
        replace bel := bel.trans (q9.mono bel.size)
        clear q9
        go_wp2_with fail
        go_ret
        exact ⟨rfl, bel⟩
  · clear HOK HNO
    obtain ⟨c0, c1, f0, f1⟩ := Y.cells
    obtain ⟨d0, d1, e0, e1⟩ := Z.cells
    go_wp2_with fail
    refine (sameBox_any R.1 _ _ _ Y.box Z.box).mono ?_
    rintro e w9 ⟨rfl, q9⟩
    replace bel := bel.trans (q9.mono bel.size)
    clear q9
    go_wp2_with fail
    go_ret
    exact ⟨rfl, bel⟩
set_option maxHeartbeats 1000000 in
theorem fnAppend.walk (a : Option Addr) (len cap : Nat) (hl : len ≤ cap) (hm : cap ≤ maxLen) (w : World) (hc : CodeAt w a len) :
    Calls Try.prog 9 #[.slice a len cap] w fun e w' => e = .returned (.bool true) ∧ Below w.heap.size w w' := by
  unfold maxLen at hm
  by_cases h1 : 1048576 < len
  · go_enter Try.func9, Try.ntmps9
    go_wp2_with fail
    all_goals go_ret
    all_goals exact ⟨rfl, Below.refl _ _⟩
  go_enter Try.func9, Try.ntmps9
  go_wp2_with fail
  refine (DrawBoxAppend_any a len cap hl w hc).mono ?_
  clear hc
  rintro e w1 ⟨b, a1, cap1, f, t, rfl, hb, b1⟩
  have hl10 := hb.1.2.2
  have hnx := hb.1.1
  have hnx2 := hb.1.2.1
  obtain ⟨wx, hwx, X, qx, sx⟩ := new_box hb.2 (by omega)
  have bel := b1.trans (qx.mono b1.size)
  have s1 := b1.size
  have HW := Lib.hid hwx
  clear hwx hb b1 qx
  go_wp2_with fail
  rw [← HW.out]
  refine (implBoxAppend_any b f t _ _ X.box).mono ?_
  rintro e w2 ⟨s, rfl, ho, q2⟩
  obtain ⟨a2, cap2, rfl⟩ := ho.slice
  have hRl := appendTo_len b f t hl10
  have hok := @appendTo_ok b f t
  have hno := @appendTo_full b f t
  obtain ⟨R, hR⟩ : ∃ R, appendTo b f t = R := ⟨_, rfl⟩
  rw [hR] at ho hRl hok hno ⊢
  have HR := Lib.hid hR; have HOK := Lib.hid hok; have HNO := Lib.hid hno
  obtain ⟨wy, hwy, Y, qy, sy⟩ := new_box ho (by omega)
  replace X := X.below q2
  obtain ⟨c0, c1, f0, f1⟩ := X.cells
  have n1 := X.lt
  have s2 := q2.size
  replace bel := (bel.trans (q2.mono bel.size)).trans (qy.mono (Nat.le_trans bel.size q2.size))
  replace X := X.below qy
  clear HW ho q2 qy hR hok hno
  have HW := Lib.hid hwy
  clear hwy
  go_wp2_with fail
  rw [← HW.out]
  clear c0 c1 f0 f1
  refine (specBoxAppend_any b f t _ _ X.box).mono ?_
  rintro e w3 ⟨s, rfl, ho, q3⟩
  obtain ⟨a3, cap3, rfl⟩ := ho.slice
  rw [HR.out] at ho ⊢
  obtain ⟨wz, hwz, Z, qz, sz⟩ := new_box ho (by omega)
  replace X := (X.below q3).below qz
  replace Y := Y.below q3
  obtain ⟨c0, c1, f0, f1⟩ := Y.cells
  have n2 := Y.lt
  have s3 := q3.size
  replace Y := Y.below qz
  replace bel := (bel.trans (q3.mono bel.size)).trans (qz.mono (Nat.le_trans bel.size q3.size))
  clear HW ho q3 qz
  have HW := Lib.hid hwz
  clear hwz
  go_wp2_with fail
  rw [← HW.out]
  clear c0 c1 f0 f1
  refine (sameBox_any R.1 _ _ _ Y.box Z.box).mono ?_
  rintro e w4 ⟨rfl, q4⟩
  replace X := X.below q4
  replace Y := Y.below q4
  replace Z := Z.below q4
  have s4 := q4.size
  replace bel := bel.trans (q4.mono bel.size)
  clear HW q4
  rcases hR2 : R.2 with _ | _
  ·
    obtain ⟨c0, c1, f0, f1⟩ := Y.cells
    obtain ⟨d0, d1, e0, e1⟩ := Z.cells
    go_wp2_with fail
    refine (sameBox_any R.1 _ _ _ Y.box Z.box).mono ?_
    rintro e w9 ⟨rfl, q9⟩
    replace bel := bel.trans (q9.mono bel.size)
    clear q9
    go_wp2_with fail
    go_ret
    exact ⟨rfl, bel⟩
  ·
    obtain ⟨o1, o2, o3, o4, o5, hRe, o7⟩ := HOK.out hR2
    clear HOK HNO HR hRl hR2
    subst hRe
    have hlen : (b.mail ++ [(⟨b.next, f, t⟩ : M)]).length = b.mail.length + 1 := by simp
    replace Y : BoxCell w4 w2.heap.size wx.heap.size ⟨b.next + 1, b.mail ++ [⟨b.next, f, t⟩]⟩ a2 cap2 := Y
    replace Z : BoxCell w4 w3.heap.size wy.heap.size ⟨b.next + 1, b.mail ++ [⟨b.next, f, t⟩]⟩ a3 cap3 := Z
    dsimp only
    rw [hlen]
    have hcaps := Y.caps
    obtain ⟨a', n', c', he, hn', hcc, _, hmail⟩ := Y.mail
    cases he
    rcases hmail with h0 | ⟨g, off, rfl, hg, hcells⟩
    · dsimp only at h0; omega
    obtain ⟨m0, m1, m2⟩ := hcells b.mail.length ⟨b.next, f, t⟩ (by dsimp only; simp)
    dsimp only at m0 m1 m2
    have HX := Lib.hid X
    have HY := Lib.hid Y
    have HM := Lib.hid (And.intro m0 (And.intro m1 m2))
    have HG := Lib.hid hg
    obtain ⟨c0, c1, f0, f1⟩ := X.cells
    obtain ⟨d0, d1, e0, e1⟩ := Y.cells
    dsimp only at d0 d1 hcaps
    rw [hlen] at d1 hcaps
    have hV := fun (W : World) (hW : Below w4.heap.size w4 W) => implBoxValid_any ⟨b.next + 1, b.mail ++ [⟨b.next, f, t⟩]⟩ (.agg #[.int .i64 (b.next + 1), .slice (some ⟨g, off, none⟩) (b.mail.length + 1) cap2]) W (by have := (Y.below hW).box; dsimp only at this; rwa [hlen] at this)
    rw [o7] at hV
    have CV := Lib.hid hV
    have HD := Lib.hid hlen
    have HO7 := Lib.hid o7
    have x1 : IntKind.i64.wrap ((b.mail.length : Int) + 1) = (b.mail.length : Int) + 1 := IntWalk.i64_in _ (by omega)
    have x2 : IntKind.i64.wrap (b.next + 1) = b.next + 1 := IntWalk.i64_in _ (by omega)
    have x3 : IntKind.i64.wrap (b.mail.length : Int) = (b.mail.length : Int) := IntWalk.i64_in _ (by omega)
    have x4 : (0 : Int) ≤ (b.mail.length : Int) := Int.natCast_nonneg _
    have x5 : (b.mail.length : Int) < (b.mail.length : Int) + 1 := by omega
    clear hlen X Y Z hV o7 hcells hn' hcc hg o1 o2 o3
    go_upto_region 9 with fail
    go_region_held3 (fun W => ((W.cell? ⟨w1.heap.size, 0, none⟩ = some (.int .i64 b.next) ∧ W.cell? ⟨w1.heap.size, 1, none⟩ = some (.slice a1 b.mail.length cap1)) ∧ W.cell? ⟨w2.heap.size, 0, none⟩ = some (.int .i64 (b.next + 1)) ∧ W.cell? ⟨w2.heap.size, 1, none⟩ = some (.slice (some ⟨g, off, none⟩) (b.mail.length + 1) cap2)) ∧ W.cell? ⟨g, off + b.mail.length * 3, none⟩ = some (.int .i64 b.next) ∧ W.cell? ⟨g, off + b.mail.length * 3 + 1, none⟩ = some (.int .i64 f) ∧ W.cell? ⟨g, off + b.mail.length * 3 + 2, none⟩ = some (.string t)) (first | exact ⟨⟨⟨c0, c1⟩, d0, d1⟩, m0, m1, m2⟩ | (go_keep; done))
      ((go_at_call 18; refine (CV.out _ (by go_grown)).mono ?_; rintro e w5 ⟨rfl, q5⟩; have b5 : Below w4.heap.size w4 w5 := Below.trans (by go_grown) q5; obtain ⟨c0, c1, f0, f1⟩ := (HX.out.below b5).cells; obtain ⟨d0, d1, e0, e1⟩ := (HY.out.below b5).cells; dsimp only at d0 d1; rw [HD.out] at d1; have m0 := (b5.cell (p := ⟨g, _, none⟩) HG.out).trans HM.out.1; have m1 := (b5.cell (p := ⟨g, _, none⟩) HG.out).trans HM.out.2.1; have m2 := (b5.cell (p := ⟨g, _, none⟩) HG.out).trans HM.out.2.2; clear q5))
    all_goals
      go_wp2_with fail
      go_ret
      exact ⟨rfl, bel.trans (b5.mono bel.size)⟩
end Go.Proofs.Ytdnogbneajloeaa

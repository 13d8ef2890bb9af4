/- WALKS: the laws of changed flags. -/
import Derived.Test.YtojfalimohcebaaBoxCell
import Derived.Test.YtojfalimohcebaaPFlags
import Derived.Test.YtojfalimohcebaaPlaces
import Derived.Test.YtojfalimohcebaaFlLaws
import Derived.IntWalk
namespace Go.Proofs.Ytojfalimohcebaa
open Go.RowKit
set_option linter.unusedVariables false

set_option maxHeartbeats 1000000 in
theorem fnBoxFlagsTwice.walk (a : Option Addr) (len cap : Nat) (hl : len ≤ cap) (hm : cap ≤ maxLen) (w : World) (hc : CodeAt w a len) :
    Calls Try.prog 12 #[.slice a len cap] w fun e w' => e = .returned (.bool true) ∧ Below w.heap.size w w' := by
  unfold maxLen at hm
  by_cases h1 : 1048576 < len
  · go_enter Try.func12, Try.ntmps12
    go_wp2_with fail
    all_goals go_ret
    all_goals exact ⟨rfl, Below.refl _ _⟩
  go_enter Try.func12, Try.ntmps12
  go_wp2_with fail
  refine (DrawBoxFlags_any a len cap hl w hc).mono ?_
  clear hc
  rintro e w1 ⟨b, a1, cap1, gp, kp, cp, ps, how, o, rfl, hb, ⟨hp, hpl, hkp⟩, b1⟩
  have hl10 := hb.1.2.2
  have hpi := hp.at (by omega)
  obtain ⟨wx, hwx, X, qx, sx⟩ := new_box hb.2 (by omega)
  have bel := b1.trans (qx.mono b1.size)
  have s1 := b1.size
  have HP := Lib.hid (hpi.below qx)
  have HPL := Lib.hid hpl
  have HW := Lib.hid hwx
  clear hwx hb b1 qx hp hpi hpl
  go_wp2_with fail
  rw [← HW.out]
  refine (implBoxFlags_any b ps how o _ _ _ X.box HP.out).mono ?_
  rintro e w2 ⟨s, rfl, ho, q2⟩
  obtain ⟨a2, cap2, rfl⟩ := ho.slice
  have hRl := flagsTo_len b ps how o hl10
  have hok := @flagsTo_ok b ps how o
  have htwo := @flagsTo_two b ps how o
  obtain ⟨R, hR⟩ : ∃ R, flagsTo b ps how o = R := ⟨_, rfl⟩
  rw [hR] at ho hRl hok htwo ⊢
  have HR := Lib.hid hR; have HOK := Lib.hid hok; have HTWO := Lib.hid htwo
  obtain ⟨wy, hwy, Y, qy, sy⟩ := new_box ho (by omega)
  replace X := X.below q2
  replace HP := Lib.hid ((HP.out.below q2).below qy)
  obtain ⟨c0, c1, f0, f1⟩ := X.cells
  have n1 := X.lt
  have s2 := q2.size
  replace bel := (bel.trans (q2.mono bel.size)).trans (qy.mono (Nat.le_trans bel.size q2.size))
  replace X := X.below qy
  clear HW ho q2 qy hR hok htwo
  have HW := Lib.hid hwy
  clear hwy
  go_wp2_with fail
  rw [← HW.out]
  clear c0 c1 f0 f1
  refine (specBoxFlags_any b ps how o _ _ _ X.box HP.out).mono ?_
  rintro e w3 ⟨s, rfl, ho, q3⟩
  obtain ⟨a3, cap3, rfl⟩ := ho.slice
  rw [HR.out] at ho ⊢
  obtain ⟨wz, hwz, Z, qz, sz⟩ := new_box ho (by omega)
  replace X := (X.below q3).below qz
  replace HP := Lib.hid ((HP.out.below q3).below qz)
  replace Y := Y.below q3
  obtain ⟨c0, c1, f0, f1⟩ := Y.cells
  have n2 := Y.lt
  have s3 := q3.size
  replace Y := Y.below qz
  replace bel := (bel.trans (q3.mono bel.size)).trans (qz.mono (Nat.le_trans bel.size q3.size))
  clear HW ho q3 qz
  have HW := Lib.hid hwz
  clear hwz
  go_wp2_with fail
  rw [← HW.out]
  clear c0 c1 f0 f1
  refine (sameBox_any R.1 _ _ _ Y.box Z.box).mono ?_
  rintro e w4 ⟨rfl, q4⟩
  replace X := X.below q4
  replace Y := Y.below q4
  replace Z := Z.below q4
  replace HP := Lib.hid (HP.out.below q4)
  have s4 := q4.size
  replace bel := bel.trans (q4.mono bel.size)
  clear HW q4
  rcases hR2 : R.2 with _ | _
  ·
    obtain ⟨c0, c1, f0, f1⟩ := Y.cells
    obtain ⟨d0, d1, e0, e1⟩ := Z.cells
    go_wp2_with fail
    refine (sameBox_any R.1 _ _ _ Y.box Z.box).mono ?_
    rintro e w9 ⟨rfl, q9⟩
    replace bel := bel.trans (q9.mono bel.size)
    clear q9
    go_wp2_with fail
    go_ret
    exact ⟨rfl, bel⟩
  clear Z
  have ht := HTWO.out hR2
  have HT := Lib.hid ht
  clear HTWO HOK HR ht X
  obtain ⟨c0, c1, f0, f1⟩ := Y.cells
  go_wp2_with fail
  refine (implBoxFlags_any R.1 ps how o _ _ _ Y.box HP.out).mono ?_
  rintro e w7 ⟨s, rfl, ho, q7⟩
  obtain ⟨a7, cap7, rfl⟩ := ho.slice
  rw [HT.out] at ho ⊢
  dsimp only at ho ⊢
  obtain ⟨wy, hwy, Z, qy, sy⟩ := new_box ho (by omega)
  replace Y := Y.below q7
  replace bel := (bel.trans (q7.mono bel.size)).trans (qy.mono (Nat.le_trans bel.size q7.size))
  clear c0 c1 f0 f1
  obtain ⟨c0, c1, f0, f1⟩ := Y.cells
  have n7 := Y.lt
  replace Y := Y.below qy
  have HW := Lib.hid hwy
  clear hwy ho q7 qy
  go_wp2_with fail
  rw [← HW.out]
  clear c0 c1 f0 f1
  refine (sameBox_any R.1 _ _ _ Z.box Y.box).mono ?_
  rintro e w8 ⟨rfl, q8⟩
  replace bel := bel.trans (q8.mono bel.size)
  clear q8 HW Z Y
  go_wp2_with fail
  go_ret
  exact ⟨rfl, bel⟩
set_option maxHeartbeats 1000000 in
theorem fnBoxFlags.walk (a : Option Addr) (len cap : Nat) (hl : len ≤ cap) (hm : cap ≤ maxLen) (w : World) (hc : CodeAt w a len) :
    Calls Try.prog 13 #[.slice a len cap] w fun e w' => e = .returned (.bool true) ∧ Below w.heap.size w w' := by
  unfold maxLen at hm
  by_cases h1 : 1048576 < len
  · go_enter Try.func13, Try.ntmps13
    go_wp2_with fail
    all_goals go_ret
    all_goals exact ⟨rfl, Below.refl _ _⟩
  go_enter Try.func13, Try.ntmps13
  go_wp2_with fail
  refine (DrawBoxFlags_any a len cap hl w hc).mono ?_
  clear hc
  rintro e w1 ⟨b, a1, cap1, gp, kp, cp, ps, how, o, rfl, hb, ⟨hp, hpl, hkp⟩, b1⟩
  have hl10 := hb.1.2.2
  have hpi := hp.at (by omega)
  obtain ⟨wx, hwx, X, qx, sx⟩ := new_box hb.2 (by omega)
  have bel := b1.trans (qx.mono b1.size)
  have s1 := b1.size
  have HP := Lib.hid (hpi.below qx)
  have HPL := Lib.hid hpl
  have HW := Lib.hid hwx
  clear hwx hb b1 qx hp hpi hpl
  go_wp2_with fail
  rw [← HW.out]
  refine (implBoxFlags_any b ps how o _ _ _ X.box HP.out).mono ?_
  rintro e w2 ⟨s, rfl, ho, q2⟩
  obtain ⟨a2, cap2, rfl⟩ := ho.slice
  have hRl := flagsTo_len b ps how o hl10
  have hok := @flagsTo_ok b ps how o
  have htwo := @flagsTo_two b ps how o
  obtain ⟨R, hR⟩ : ∃ R, flagsTo b ps how o = R := ⟨_, rfl⟩
  rw [hR] at ho hRl hok htwo ⊢
  have HR := Lib.hid hR; have HOK := Lib.hid hok; have HTWO := Lib.hid htwo
  obtain ⟨wy, hwy, Y, qy, sy⟩ := new_box ho (by omega)
  replace X := X.below q2
  replace HP := Lib.hid ((HP.out.below q2).below qy)
  obtain ⟨c0, c1, f0, f1⟩ := X.cells
  have n1 := X.lt
  have s2 := q2.size
  replace bel := (bel.trans (q2.mono bel.size)).trans (qy.mono (Nat.le_trans bel.size q2.size))
  replace X := X.below qy
  clear HW ho q2 qy hR hok htwo
  have HW := Lib.hid hwy
  clear hwy
  go_wp2_with fail
  rw [← HW.out]
  clear c0 c1 f0 f1
  refine (specBoxFlags_any b ps how o _ _ _ X.box HP.out).mono ?_
  rintro e w3 ⟨s, rfl, ho, q3⟩
  obtain ⟨a3, cap3, rfl⟩ := ho.slice
  rw [HR.out] at ho ⊢
  obtain ⟨wz, hwz, Z, qz, sz⟩ := new_box ho (by omega)
  replace X := (X.below q3).below qz
  replace HP := Lib.hid ((HP.out.below q3).below qz)
  replace Y := Y.below q3
  obtain ⟨c0, c1, f0, f1⟩ := Y.cells
  have n2 := Y.lt
  have s3 := q3.size
  replace Y := Y.below qz
  replace bel := (bel.trans (q3.mono bel.size)).trans (qz.mono (Nat.le_trans bel.size q3.size))
  clear HW ho q3 qz
  have HW := Lib.hid hwz
  clear hwz
  go_wp2_with fail
  rw [← HW.out]
  clear c0 c1 f0 f1
  refine (sameBox_any R.1 _ _ _ Y.box Z.box).mono ?_
  rintro e w4 ⟨rfl, q4⟩
  replace X := X.below q4
  replace Y := Y.below q4
  replace Z := Z.below q4
  replace HP := Lib.hid (HP.out.below q4)
  have s4 := q4.size
  replace bel := bel.trans (q4.mono bel.size)
  clear HW q4
  rcases hR2 : R.2 with _ | _
  ·
    obtain ⟨c0, c1, f0, f1⟩ := Y.cells
    obtain ⟨d0, d1, e0, e1⟩ := Z.cells
    go_wp2_with fail
    refine (sameBox_any R.1 _ _ _ Y.box Z.box).mono ?_
    rintro e w9 ⟨rfl, q9⟩
    replace bel := bel.trans (q9.mono bel.size)
    clear q9
    go_wp2_with fail
    go_ret
    exact ⟨rfl, bel⟩
  clear Z
  obtain ⟨o1, o2, o3, o4, hRe⟩ := HOK.out hR2
  clear HTWO HOK HR hR2
  subst hRe
  have hlen : (flagAll how o b.mail ps).length = b.mail.length := flagAll_len _ _ _ _
  replace Y : BoxCell w4 w2.heap.size wx.heap.size ⟨b.next, flagAll how o b.mail ps⟩ a2 cap2 := Y
  (try dsimp only at hRl)
  (try dsimp only)
  rw [hlen] at hRl ⊢
  have hget := fun i m (h : b.mail[i]? = some m) => flagAll_get how o ps b.mail 0 b.mail.length (Int.le_refl _) o2 i m h
  have HGET := Lib.hid hget; have HLEN := Lib.hid hlen
  have HX := Lib.hid X; have HY := Lib.hid Y
  obtain ⟨a', n', c', he, hn', hcc, _, hmail⟩ := X.mail
  cases he
  obtain ⟨a', n'', c', he, hn'', hcc2, _, hmail2⟩ := Y.mail
  cases he
  have HM1 := Lib.hid hmail; have HM2 := Lib.hid hmail2
  dsimp only at hcc2
  rw [hlen] at hcc2
  clear X Y hn' hn'' hget hlen hmail hmail2 o1 o2 o3 o4
  have Q0 := Lib.hid (Below.refl w4.heap.size w4)
  go_wp2_with fail
  go_loopw [11] (fun i wr => ∃ n : Nat, n ≤ b.mail.length ∧ i = .int .i64 n ∧ Below w4.heap.size w4 wr) (fun i _ => b.mail.length - (intOf i).toNat)
  case atStart => exact ⟨0, by omega, rfl, Q0.out⟩
  case round =>
    obtain ⟨n, hn, rfl, hq⟩ := hrel
    obtain ⟨c0, c1, f0, f1⟩ := (HX.out.below hq).cells
    obtain ⟨d0, d1, e0, e1⟩ := (HY.out.below hq).cells
    (try dsimp only at d1)
    rw [HLEN.out] at d1
    have zx := (HX.out.below hq).lt
    have zy := (HY.out.below hq).lt
    have zq := hq.size
    by_cases hlt : n < b.mail.length
    · rcases HM1.out with h0 | ⟨gm, off, rfl, hg, hcells⟩
      · exfalso; omega
      rcases HM2.out with h0 | ⟨gn, offn, rfl, hgn, hcellsn⟩
      · exfalso; rw [HLEN.out] at h0; omega
      have hmm := List.getElem?_eq_getElem hlt
      generalize b.mail[n] = m at hmm
      have hnew := HGET.out n m hmm
      obtain ⟨m0, m1, m2⟩ := hcells n _ hmm
      have m0 := (hq.cell (p := ⟨gm, _, none⟩) hg).trans m0
      have m1 := (hq.cell (p := ⟨gm, _, none⟩) hg).trans m1
      have m2 := (hq.cell (p := ⟨gm, _, none⟩) hg).trans m2
      have hnI : (n : Int) < (b.mail.length : Int) := by omega
      have hcn := hcellsn n _ hnew
      have HCN := Lib.hid hcn
      have hmem := hasB_mem ps ((n : Int) + 1)
      have hHAS := Lib.hid hmem
      obtain ⟨wm, hwm⟩ : ∃ wm, wm = wr.alloc (.cells #[.int .i64 m.uid, .int .i64 m.flags, .string m.text] 35) := ⟨_, rfl⟩
      have qm : Below wr.heap.size wr wm := by rw [hwm]; exact (Below.refl _ _).alloc (Nat.le_refl _) _
      have zm : wm.heap[wr.heap.size]? = some (.cells #[.int .i64 m.uid, .int .i64 m.flags, .string m.text] 35 (0, 0)) := by rw [hwm]; exact heap_alloc_new wr _
      have HWM := Lib.hid hwm; have ZM := Lib.hid zm
      have hqm := hq.trans (qm.mono zq)
      clear hcells hcellsn hmm hnew hcn hmem hwm zm
      go_wp2_with fail
      rw [← HWM.out]
      clear HWM c0 c1 d0 d1 m0 m1 m2 f0 f1 e0 e1
      refine (hasInt_any ps ((n : Int) + 1) _ _ (HP.out.below hqm)).mono ?_
      rintro e w' ⟨rfl, rfl⟩
      obtain ⟨x0, x1, x2, g0, g1, g2⟩ := three_cells ZM.out
      obtain ⟨c0, c1, f0, f1⟩ := (HX.out.below hqm).cells
      obtain ⟨d0, d1, e0, e1⟩ := (HY.out.below hqm).cells
      (try dsimp only at d1)
      rw [HLEN.out] at d1
      rcases hc : hasB ps ((n : Int) + 1) with _ | _
      · have hnot : ¬ ((n : Int) + 1) ∈ ps := fun h => by have := hHAS.out.2 h; rw [hc] at this; cases this
        have hcn := HCN.out
        rw [if_neg hnot] at hcn
        obtain ⟨y0, y1, y2⟩ := hcn
        have y0 := (hqm.cell (p := ⟨gn, _, none⟩) hgn).trans y0
        have y1 := (hqm.cell (p := ⟨gn, _, none⟩) hgn).trans y1
        have y2 := (hqm.cell (p := ⟨gn, _, none⟩) hgn).trans y2
        clear hnot hc
        go_wp2_with fail
        go_quiet (fail)
        go_wp2_with fail
        go_roundw
        case rel => exact ⟨n + 1, by omega, by go_num, below_drewN hqm _⟩
        case measure => simp [intOf]; omega
      · have hyes : ((n : Int) + 1) ∈ ps := hHAS.out.1 hc
        have hcn := HCN.out
        rw [if_pos hyes] at hcn
        have HCN2 := Lib.hid hcn
        clear hyes hc hcn
        go_wp2_with fail
        refine (implFlagsChange_any m.flags how o _).mono ?_
        rintro e w8 ⟨rfl, q8⟩
        have hq8 := hqm.trans (q8.mono hqm.size)
        have zm8 := (q8.block _ (lt_of_block ZM.out)).trans ZM.out
        have ne1 : wr.heap.size ≠ w2.heap.size := by omega
        obtain ⟨w9, hw9⟩ : ∃ w9, w9 = w8.setCell ⟨wr.heap.size, 1, none⟩ (.int .i64 (changed m.flags how o)) := ⟨_, rfl⟩
        have q9 : Below w4.heap.size w4 w9 := by rw [hw9]; exact hq8.setCell (by show _ ≤ wr.heap.size; exact zq) _
        obtain ⟨x0, x1, x2, g0, g1, g2⟩ := three_cells zm8
        have zm9 : w9.heap[wr.heap.size]? = some (.cells #[.int .i64 m.uid, .int .i64 (changed m.flags how o), .string m.text] 35 (0, 0)) := by rw [hw9, set_at zm8]; rfl
        have HW9 := Lib.hid hw9
        have ZM9 := Lib.hid zm9
        clear zm8 hw9 zm9 c0 c1 d0 d1
        obtain ⟨y0, y1, y2⟩ := HCN2.out
        (try dsimp only at y0)
        (try dsimp only at y1)
        (try dsimp only at y2)
        have y0 := (q9.cell (p := ⟨gn, _, none⟩) hgn).trans y0
        have y1 := (q9.cell (p := ⟨gn, _, none⟩) hgn).trans y1
        have y2 := (q9.cell (p := ⟨gn, _, none⟩) hgn).trans y2
        obtain ⟨d0, d1, e0, e1⟩ := (HY.out.below q9).cells
        (try dsimp only at d1)
        rw [HLEN.out] at d1
        go_upto_region 14 with fail
        rw [← HW9.out]
        obtain ⟨x0, x1, x2, g0, g1, g2⟩ := three_cells ZM9.out
        go_quiet (fail)
        go_wp2_with fail
        go_roundw
        case rel => exact ⟨n + 1, by omega, by go_num, below_drewN q9 _⟩
        case measure => simp [intOf]; omega
    · have hnn : n = b.mail.length := by omega
      have HNN := Lib.hid hnn
      clear hnn
      go_wp2_with fail
      go_ret
      exact ⟨rfl, bel.trans (hq.mono bel.size)⟩
end Go.Proofs.Ytojfalimohcebaa

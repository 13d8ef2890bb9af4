/- WALKS: copies. -/
import Derived.Test.YtojfalimohcebaaWBoxH
namespace Go.Proofs.Ytojfalimohcebaa
open Go.RowKit
set_option linter.unusedVariables false

set_option maxHeartbeats 1000000 in
theorem fnCopy.walk (a : Option Addr) (len cap : Nat) (hl : len ≤ cap) (hm : cap ≤ maxLen) (w : World) (hc : CodeAt w a len) :
    Calls Try.prog 8 #[.slice a len cap] w fun e w' => e = .returned (.bool true) ∧ Below w.heap.size w w' := by
  unfold maxLen at hm
  by_cases h1 : 1048576 < len
  · go_enter Try.func8, Try.ntmps8
    go_wp2_with fail
    all_goals go_ret
    all_goals exact ⟨rfl, Below.refl _ _⟩
  go_enter Try.func8, Try.ntmps8
  go_wp2_with fail
  refine (DrawBoxCopy_any a len cap hl w hc).mono ?_
  clear hc
  rintro e w1 ⟨b, a1, cap1, gp, kp, cp, ps, tb, at_, ct, rfl, hb, ⟨hp, hpl, hkp⟩, ht, b1⟩
  have hl10 := hb.1.2.2
  have ht10 := ht.1.2.2
  have hpi := hp.at (by omega)
  obtain ⟨wx, hwx, X, qx, sx⟩ := new_box hb.2 (by omega)
  obtain ⟨wt, hwt, T, qt, st⟩ := new_box (ht.2.below qx) (by omega)
  have zx := X.lt
  replace X := X.below qt
  have bel := (b1.trans (qx.mono b1.size)).trans (qt.mono (Nat.le_trans b1.size qx.size))
  have s1 := b1.size
  have HP := Lib.hid ((hpi.below qx).below qt)
  have HPL := Lib.hid hpl
  have HWX := Lib.hid hwx; have HWT := Lib.hid hwt
  have SX := Lib.hid sx; have ST := Lib.hid st
  clear hwx hwt hb b1 qx qt hp hpi hpl ht sx st
  go_wp2_with fail
  rw [← HWX.out]
  have stx : w1.heap.size + 1 = wx.heap.size := SX.out.symm
  rw [← HWT.out, stx]
  clear stx SX ST
  refine (implBoxCopy_any b tb ps _ _ _ _ X.box HP.out T.box).mono ?_
  rintro e w2 ⟨s, rfl, ho, q2⟩
  obtain ⟨a2, cap2, rfl⟩ := ho.slice
  have hRl : (copyTo b ps tb).1.mail.length ≤ 21 := copyTo_len b ps tb hl10 ht10 (by have := HPL.out; omega)
  obtain ⟨R, hR⟩ : ∃ R, copyTo b ps tb = R := ⟨_, rfl⟩
  rw [hR] at ho hRl ⊢
  have HR := Lib.hid hR
  obtain ⟨wy, hwy, Y, qy, sy⟩ := new_box ho (by omega)
  replace X := X.below q2
  replace T := T.below q2
  replace HP := Lib.hid ((HP.out.below q2).below qy)
  obtain ⟨c0, c1, f0, f1⟩ := X.cells
  obtain ⟨d0, d1, e0, e1⟩ := T.cells
  have n1 := X.lt
  have n1' := T.lt
  have s2 := q2.size
  replace bel := (bel.trans (q2.mono bel.size)).trans (qy.mono (Nat.le_trans bel.size q2.size))
  replace X := X.below qy
  replace T := T.below qy
  clear HWX HWT ho q2 qy hR
  have HW := Lib.hid hwy
  clear hwy sy
  go_wp2_with fail
  rw [← HW.out]
  clear c0 c1 f0 f1 d0 d1 e0 e1
  refine (specBoxCopy_any b tb ps _ _ _ _ X.box HP.out T.box).mono ?_
  rintro e w3 ⟨s, rfl, ho, q3⟩
  obtain ⟨a3, cap3, rfl⟩ := ho.slice
  rw [HR.out] at ho ⊢
  obtain ⟨wz, hwz, Z, qz, sz⟩ := new_box ho (by omega)
  replace X := (X.below q3).below qz
  replace T := (T.below q3).below qz
  replace HP := Lib.hid ((HP.out.below q3).below qz)
  replace Y := Y.below q3
  obtain ⟨c0, c1, f0, f1⟩ := Y.cells
  have n2 := Y.lt
  have s3 := q3.size
  replace Y := Y.below qz
  replace bel := (bel.trans (q3.mono bel.size)).trans (qz.mono (Nat.le_trans bel.size q3.size))
  clear HW ho q3 qz
  have HW := Lib.hid hwz
  clear hwz sz
  go_wp2_with fail
  rw [← HW.out]
  clear c0 c1 f0 f1
  refine (sameBox_any R.1 _ _ _ Y.box Z.box).mono ?_
  rintro e w4 ⟨rfl, q4⟩
  replace X := X.below q4
  replace T := T.below q4
  replace Y := Y.below q4
  replace Z := Z.below q4
  replace HP := Lib.hid (HP.out.below q4)
  have s4 := q4.size
  replace bel := bel.trans (q4.mono bel.size)
  clear HW q4
  rcases hR2 : R.2 with _ | _
  ·
    obtain ⟨c0, c1, f0, f1⟩ := Y.cells
    obtain ⟨d0, d1, e0, e1⟩ := Z.cells
    go_wp2_with fail
    refine (sameBox_any R.1 _ _ _ Y.box Z.box).mono ?_
    rintro e w9 ⟨rfl, q9⟩
    replace bel := bel.trans (q9.mono bel.size)
    clear q9
    go_wp2_with fail
    go_ret
    exact ⟨rfl, bel⟩
  obtain ⟨hbk, htk, hnum, hrun, hok2⟩ := copyTo_ok (b := b) (tb := tb) (ps := ps) (by rw [HR.out]; exact hR2)
  obtain ⟨r1, r2, r3, r4⟩ := copyRun_yes ps tb (numsOk_mem hnum) hok2
  rw [HR.out] at hrun
  rw [← hrun] at r1 r2 r3 r4
  have hkl := HPL.out
  obtain ⟨t1, t2, _⟩ := bok_next htk
  rw [hkl] at r1 r2
  have HME := Lib.hid (numsOk_mem hnum)
  have HNX := Lib.hid r1; have HLN := Lib.hid r2; have HGET := Lib.hid r4
  have hln := HLN.out
  have HX := Lib.hid X; have HT := Lib.hid T; have HY := Lib.hid Y
  have hty := Y.mail.take (k := tb.mail.length) (by omega)
  rw [r3] at hty
  have HTY := Lib.hid hty
  have hcy := Y.caps
  obtain ⟨a', n', c', he, hn', hcc, _, hmail⟩ := X.mail
  cases he
  obtain ⟨a', n'', c', he, hn'', hcc2, _, hmail2⟩ := Y.mail
  cases he
  obtain ⟨a', n'', c', he, hn'', hcc3, _, hints⟩ := HP.out
  cases he
  have HM1 := Lib.hid hmail; have HM2 := Lib.hid hmail2; have HIN := Lib.hid hints
  clear hbk hnum hrun hok2 r1 r2 r3 r4 HR X T Y Z hty hmail hmail2 hints hn'' hR2 hkl
  obtain ⟨d0, d1, e0, e1⟩ := HT.out.cells
  obtain ⟨g0, g1, i0, i1⟩ := HY.out.cells
  rw [hln] at g1
  have x1 : IntKind.i64.wrap ((tb.mail.length : Int) + (kp : Int)) = (tb.mail.length : Int) + (kp : Int) := IntWalk.i64_in _ (by omega)
  have hk2 : (tb.mail.length : Int) ≤ (cap2 : Int) := by omega
  have HCY := Lib.hid hcy
  clear hln hcy hcc2
  go_upto_region 9 with fail
  go_region_held3 (fun W => W.cell? ⟨wx.heap.size, 1, none⟩ = some (.slice at_ tb.mail.length ct) ∧ W.cell? ⟨w2.heap.size, 1, none⟩ = some (.slice a2 (tb.mail.length + kp) cap2)) (first | exact ⟨d1, g1⟩ | (go_keep; done))
    ((go_at_call 21; refine (sameMail_any tb.mail _ _ _ (HTY.out.below (by go_grown)) (HT.out.mail.below (by go_grown))).mono ?_; rintro e w5 ⟨rfl, q5⟩; have b5 : Below w4.heap.size w4 w5 := Below.trans (by go_grown) q5; obtain ⟨d0, d1, e0, e1⟩ := (HT.out.below b5).cells; obtain ⟨g0, g1, i0, i1⟩ := (HY.out.below b5).cells; rw [HLN.out] at g1; clear q5))
  have Q0 := Lib.hid b5
  clear b5
  go_wp2_with fail
  go_loopw [11] (fun i wr => ∃ n : Nat, n ≤ kp ∧ i = .int .i64 n ∧ Below w4.heap.size w4 wr) (fun i _ => kp - (intOf i).toNat)
  case atStart => exact ⟨0, by omega, rfl, Q0.out⟩
  case round =>
    obtain ⟨n, hn, rfl, hq⟩ := hrel
    clear d0 d1 e0 e1 g0 g1 i0 i1 Q0
    obtain ⟨c0, c1, f0, f1⟩ := (HX.out.below hq).cells
    obtain ⟨d0, d1, e0, e1⟩ := (HT.out.below hq).cells
    obtain ⟨g0, g1, i0, i1⟩ := (HY.out.below hq).cells
    rw [HLN.out] at g1
    have zx := (HX.out.below hq).lt
    have zt := (HT.out.below hq).lt
    have zy := (HY.out.below hq).lt
    have zq := hq.size
    by_cases hlt : n < kp
    · have hlt' : n < ps.length := by rw [HPL.out]; exact hlt
      have hp := List.getElem?_eq_getElem hlt'
      obtain ⟨hp1, hp2⟩ := HME.out _ (List.getElem_mem hlt')
      have hgt := HGET.out n hlt'
      generalize ps[n] = p at hp hp1 hp2 hgt
      obtain ⟨k, rfl⟩ : ∃ k : Nat, p = (k : Int) + 1 := ⟨(p - 1).toNat, by omega⟩
      rcases HIN.out with h0 | ⟨gq, offp, he, hgp, hpc⟩
      · exfalso; omega
      cases he
      rcases HM1.out with h0 | ⟨gm, off, rfl, hg, hcells⟩
      · exfalso; omega
      rcases HM2.out with h0 | ⟨gn, offn, rfl, hgn, hcellsn⟩
      · exfalso; rw [HLN.out] at h0; omega
      have hk : k < b.mail.length := by omega
      have hmm := List.getElem?_eq_getElem hk
      generalize b.mail[k] = m at hmm
      have hnew := hgt m (by rw [show ((k : Int) + 1).toNat - 1 = k from by omega]; exact hmm)
      have p0 := (hq.cell (p := ⟨gp, _, none⟩) hgp).trans (hpc n _ hp)
      rw [Nat.zero_add] at p0
      obtain ⟨m0, m1, m2⟩ := hcells k _ hmm
      have m0 := (hq.cell (p := ⟨gm, _, none⟩) hg).trans m0
      have m1 := (hq.cell (p := ⟨gm, _, none⟩) hg).trans m1
      have m2 := (hq.cell (p := ⟨gm, _, none⟩) hg).trans m2
      obtain ⟨y0, y1, y2⟩ := hcellsn _ _ hnew
      dsimp only at y0 y1 y2
      have HY0 := Lib.hid (And.intro y0 (And.intro y1 y2))
      clear y0 y1 y2
      have hnI : (n : Int) < (kp : Int) := by omega
      have hkI : (k : Int) < (b.mail.length : Int) := by omega
      clear hcells hcellsn hmm hnew hpc hp hgt hp1 hp2 hlt'
      have hk0 : (0 : Int) ≤ (k : Int) := Int.natCast_nonneg _
      have x1' : IntKind.i64.wrap ((k : Int) + 1 - 1) = (k : Int) := by rw [show (k : Int) + 1 - 1 = (k : Int) from by omega]; exact IntWalk.i64_in _ (by omega)
      have x2' : IntKind.i64.wrap (k : Int) = (k : Int) := IntWalk.i64_in _ (by omega)
      clear g0 g1 i0 i1 d0 d1 e0 e1
      go_upto_region 14 with fail
      go_cut [12] (fun q wk => ∃ km, q = .pointer (some ⟨km, 0, none⟩) ∧ wr.heap.size ≤ km ∧ Hid (wk.heap[km]? = some (.cells #[.int .i64 m.uid, .int .i64 m.flags, .string m.text] 35 (0, 0))) ∧ Hid (Below wr.heap.size wr wk))
      case first =>
        go_region_held3 (fun W => W.cell? ⟨w1.heap.size, 1, none⟩ = some (.slice (some ⟨gm, off, none⟩) b.mail.length cap1) ∧ W.cell? ⟨gp, n, none⟩ = some (.int .i64 ((k : Int) + 1)) ∧ W.cell? ⟨gm, off + k * 3, none⟩ = some (.int .i64 m.uid) ∧ W.cell? ⟨gm, off + k * 3 + 1, none⟩ = some (.int .i64 m.flags) ∧ W.cell? ⟨gm, off + k * 3 + 2, none⟩ = some (.string m.text)) (first | exact ⟨c1, p0, m0, m1, m2⟩ | (go_keep; done)) (fail)
        all_goals
          go_wp2_with fail
          go_meet
          exact ⟨_, rfl, Nat.le_refl _, heap_alloc_new wr _, ((Below.refl _ _).alloc (Nat.le_refl _) _).drew⟩
      obtain ⟨km, rfl, hkm, ZK, HQ2⟩ := hcut
      have hq2 := hq.trans (HQ2.out.mono hq.size)
      clear c0 c1 f0 f1 p0 m0 m1 m2
      obtain ⟨d0, d1, e0, e1⟩ := (HT.out.below hq2).cells
      obtain ⟨m3, m4, m5, j0, j1, j2⟩ := three_cells ZK.out
      obtain ⟨w9, hw9⟩ : ∃ w9, w9 = wc.setCell ⟨km, 0, none⟩ (.int .i64 (tb.next + n)) := ⟨_, rfl⟩
      have q9 : Below w4.heap.size w4 w9 := by rw [hw9]; exact hq2.setCell (Nat.le_trans zq hkm) _
      have zm9 : w9.heap[km]? = some (.cells #[.int .i64 (tb.next + n), .int .i64 m.flags, .string m.text] 35 (0, 0)) := by rw [hw9, set_at ZK.out]; rfl
      have HW9 := Lib.hid hw9
      have ZM9 := Lib.hid zm9
      clear zm9 hw9
      go_upto_region 16 with fail
      rw [← HW9.out]
      clear d0 d1 e0 e1 m3 m4 m5 j0 j1 j2
      obtain ⟨x0, x1, x2, j0, j1, j2⟩ := three_cells ZM9.out
      obtain ⟨g0, g1, i0, i1⟩ := (HY.out.below q9).cells
      rw [HLN.out] at g1
      obtain ⟨y0, y1, y2⟩ := HY0.out
      have y0 := (q9.cell (p := ⟨gn, _, none⟩) hgn).trans y0
      have y1 := (q9.cell (p := ⟨gn, _, none⟩) hgn).trans y1
      have y2 := (q9.cell (p := ⟨gn, _, none⟩) hgn).trans y2
      obtain ⟨j, hj⟩ : ∃ j, tb.mail.length + n = j := ⟨_, rfl⟩
      rw [hj] at y0 y1 y2
      have x3 : IntKind.i64.wrap ((tb.mail.length : Int) + (n : Int)) = (j : Int) := by rw [show (tb.mail.length : Int) + (n : Int) = (j : Int) from by omega]; exact IntWalk.i64_in _ (by omega)
      have x4 : (0 : Int) ≤ (j : Int) := Int.natCast_nonneg _
      have x5 : (j : Int) < (tb.mail.length : Int) + (kp : Int) := by omega
      clear hj HY0
      go_quiet (fail)
      go_wp2_with fail
      go_roundw
      case rel => exact ⟨n + 1, by omega, by go_num, below_drewN q9 _⟩
      case measure => simp [intOf]; omega
    · have hnn : n = kp := by omega
      have HNN := Lib.hid hnn
      clear hnn
      have hnx := HNX.out
      go_wp2_with fail
      go_ret
      exact ⟨rfl, bel.trans (hq.mono bel.size)⟩
end Go.Proofs.Ytojfalimohcebaa

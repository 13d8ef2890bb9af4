/- WALK: the program's BoxCopy answers as the reference's, in memory of its own. -/
import Derived.Test.YtpahgjideppmoaaExCell
import Derived.Test.YtpahgjideppmoaaCopies
import Derived.Test.YtpahgjideppmoaaExSz
import Derived.Deep.DeepCutAuto
import Derived.Deep.DrawnRows
import Derived.IntWalk
namespace Go.Proofs.Ytpahgjideppmoaa
open Go.RowKit
set_option linter.unusedVariables false
attribute [local go_sem ↓] Go.wp_at_zero Go.wp_at_succ

set_option maxRecDepth 100000 in
set_option maxHeartbeats 60000000 in
theorem fnExactBoxCopy.walk (x : Int) (a : Option Addr) (len cap : Nat) (l : List M) (hl : len ≤ cap) (hm : cap ≤ maxLen) (a1 : Option Addr) (len1 cap1 : Nat) (us : List Int) (hl1 : len1 ≤ cap1) (hm1 : cap1 ≤ maxLen) (x2 : Int) (a2 : Option Addr) (len2 cap2 : Nat) (l2 : List M) (hl2 : len2 ≤ cap2) (hm2 : cap2 ≤ maxLen) (w : World) (hc : MailIn w a len cap l) (hc1 : IntsIn w a1 len1 cap1 us) (hc2 : MailIn w a2 len2 cap2 l2) :
    Calls Try.prog 3 #[.agg #[.int .i64 x, .slice a len cap], .slice a1 len1 cap1, .agg #[.int .i64 x2, .slice a2 len2 cap2]] w fun e w' => e = .returned (.bool true) ∧ Below w.heap.size w w' := by
  obtain ⟨b, rfl, rfl⟩ : ∃ b : B, b.next = x ∧ b.mail = l := ⟨⟨x, l⟩, rfl, rfl⟩
  obtain ⟨hbl, hbn, htx, hbm⟩ := hc
  subst hbl
  obtain ⟨tb, rfl, rfl⟩ : ∃ B' : B, B'.next = x2 ∧ B'.mail = l2 := ⟨⟨x2, l2⟩, rfl, rfl⟩
  obtain ⟨hbl2, hbn2, htx2, hbm2⟩ := hc2
  subst hbl2
  have hul := hc1.1
  subst hul
  by_cases hus : 1048576 < us.length
  · unfold maxLen at hm1
    go_enter Try.func3, Try.ntmps3
    go_wp2_with fail
    go_ret
    exact ⟨rfl, by go_grown⟩
  by_cases hbig : 1048576 < b.mail.length
  · go_enter Try.func3, Try.ntmps3
    go_wp2_with fail
    refine (szBox_big _ _ _ _ _ _ (by omega) (by omega) hl hm hbig).mono ?_
    rintro e wn ⟨rfl, q⟩
    have bel : Below w.heap.size w wn := Below.trans (by go_grown) (q.mono (by first | (simp; done) | (simp; omega)))
    clear q
    go_wp2_with fail
    go_ret
    exact ⟨rfl, bel⟩
  obtain ⟨w1, hw1⟩ : ∃ w1, w1 = (w.alloc (.cells #[.int .i64 b.next, .slice a b.mail.length cap] 24)).alloc (.cells #[.int .i64 tb.next, .slice a2 tb.mail.length cap2] 24) := ⟨_, rfl⟩
  have bel : Below w.heap.size w w1 := by rw [hw1]; go_grown
  have s0 : w.heap.size + 2 ≤ w1.heap.size := by rw [hw1]; simp
  have hA : w1.heap[w.heap.size]? = some (.cells #[.int .i64 b.next, .slice a b.mail.length cap] 24 (0, 0)) := by rw [hw1, Below.heap_alloc _ _ _ (by simp)]; exact heap_alloc_new w _
  have hC : w1.heap[w.heap.size + 1]? = some (.cells #[.int .i64 tb.next, .slice a2 tb.mail.length cap2] 24 (0, 0)) := by rw [hw1]; have := heap_alloc_new (w.alloc (.cells #[.int .i64 b.next, .slice a b.mail.length cap] 24)) (.cells #[.int .i64 tb.next, .slice a2 tb.mail.length cap2] 24); simpa using this
  have A : AC w1 w.heap.size w.heap.size b a cap := by
    refine ⟨hA, ⟨hl, by omega, hbn⟩, ?_, by omega⟩
    rcases hbm with h0 | ⟨g, off, ha, hg, hc⟩
    · exact .inl h0
    · exact .inr ⟨g, off, ha, hg, fun i m hi => ⟨(bel.cell (p := ⟨g, _, none⟩) hg).trans (hc i m hi).1, (bel.cell (p := ⟨g, _, none⟩) hg).trans (hc i m hi).2.1, (bel.cell (p := ⟨g, _, none⟩) hg).trans (hc i m hi).2.2⟩⟩
  have HW := Lib.hid hw1; have HTX := Lib.hid htx
  clear hw1 hbm htx hA htx2
  by_cases hbig2 : 1048576 < tb.mail.length
  ·
    go_enter Try.func3, Try.ntmps3
    obtain ⟨c1, d1, e1, f1⟩ := A.cells
    have n1 := A.lt
    go_wp2_with fail
    rw [← HW.out]
    refine (szBox_le b _ _ _ A.box (by omega) (by omega) (by omega) HTX.out).mono ?_
    rintro e w11 ⟨y, rfl, hy, q⟩
    replace A := A.below q
    replace bel := bel.trans (q.mono bel.size)
    have s1 := q.size
    clear c1 d1 e1 f1 n1 HW
    replace hC := (q.block _ (by omega)).trans hC
    clear q
    by_cases hneg : y < 0
    · go_wp2_with fail
      go_ret
      exact ⟨rfl, bel⟩
    obtain ⟨cc, dc, ec, fc⟩ := two_cells hC
    have nc := lt_of_block hC
    go_wp2_with fail
    refine (szBox_big _ _ _ _ _ _ (by omega) (by omega) hl2 hm2 hbig2).mono ?_
    rintro e wn ⟨rfl, q⟩
    replace bel := bel.trans (q.mono bel.size)
    clear q cc dc ec fc
    go_wp2_with fail
    go_ret
    exact ⟨rfl, bel⟩
  have C : AC w1 w.heap.size (w.heap.size + 1) tb a2 cap2 := by
    refine ⟨hC, ⟨hl2, by omega, hbn2⟩, ?_, by omega⟩
    rcases hbm2 with h0 | ⟨g, off, ha, hg, hc⟩
    · exact .inl h0
    · exact .inr ⟨g, off, ha, hg, fun i m hi => ⟨(bel.cell (p := ⟨g, _, none⟩) hg).trans (hc i m hi).1, (bel.cell (p := ⟨g, _, none⟩) hg).trans (hc i m hi).2.1, (bel.cell (p := ⟨g, _, none⟩) hg).trans (hc i m hi).2.2⟩⟩
  clear hbm2 hC
  have I := AI.new hc1 hl1 (by omega) bel
  clear hc1
  go_enter Try.func3, Try.ntmps3
  obtain ⟨c1, d1, e1, f1⟩ := A.cells
  have n1 := A.lt
  go_wp2_with fail
  rw [← HW.out]
  refine (szBox_le b _ _ _ A.box (by omega) (by omega) (by omega) HTX.out).mono ?_
  rintro e w11 ⟨y, rfl, hy, q⟩
  replace A := A.below q
  replace C := C.below q
  replace I := I.below q
  replace bel := bel.trans (q.mono bel.size)
  have s1 := q.size
  clear c1 d1 e1 f1 n1 HW
  clear q
  by_cases hneg : y < 0
  · go_wp2_with fail
    go_ret
    exact ⟨rfl, bel⟩
  obtain ⟨c2, d2, e2, f2⟩ := C.cells
  have n2 := C.lt
  go_wp2_with fail
  refine (szBox_any tb _ y _ C.box (by omega) (by omega) (by omega)).mono ?_
  rintro e w12 ⟨y2, rfl, q⟩
  replace A := A.below q
  replace C := C.below q
  replace I := I.below q
  replace bel := bel.trans (q.mono bel.size)
  have s2 := q.size
  clear c2 d2 e2 f2 n2
  clear q
  by_cases hneg2 : y2 < 0
  · go_wp2_with fail
    go_ret
    exact ⟨rfl, bel⟩
  clear HTX hy
  obtain ⟨T, hT⟩ : ∃ T, copyTo b us tb = T := ⟨_, rfl⟩
  have hTl : T.1.mail.length ≤ 1048576 := by rw [← hT]; have := copyTo_le b us tb; omega
  have HT := Lib.hid hT
  clear hT
  obtain ⟨c3, d3, e3, f3⟩ := A.cells
  have n3 := A.lt
  obtain ⟨c4, d4, e4, f4⟩ := C.cells
  have n4 := C.lt
  go_wp2_with fail
  go_upto_region 10 with fail
  clear c3 d3 e3 f3 n3 c4 d4 e4 f4 n4
  obtain ⟨ca, da, ea, fa⟩ := A.cells
  obtain ⟨cb, db, eb, fb⟩ := C.cells
  have na := A.lt
  have nb := C.lt
  have ma := ne_both na; have mb := ne_both nb
  have HA := Lib.hid A; have HC := Lib.hid C; have HI := Lib.hid I
  go_cut [8, 9] (fun p8 q9 wk => ∃ (k top : Nat) (aw : Option Addr) (cw : Nat), p8 = .pointer (some ⟨k, 0, none⟩) ∧ q9 = .bool T.2 ∧ Hid (BC wk k w12.heap.size top T.1 aw cw) ∧ Hid (Below w12.heap.size w12 wk))
  case first =>
    have sv : w12.heap.size ≤ w12.heap.size := Nat.le_refl _
    go_region_held3 (fun W => (W.cell? ⟨w.heap.size, 0, none⟩ = some (.int .i64 b.next) ∧ W.cell? ⟨w.heap.size, 1, none⟩ = some (.slice a b.mail.length cap)) ∧ W.cell? ⟨w.heap.size + 1, 0, none⟩ = some (.int .i64 tb.next) ∧ W.cell? ⟨w.heap.size + 1, 1, none⟩ = some (.slice a2 tb.mail.length cap2)) (first | with_reducible exact ⟨⟨ca, da⟩, cb, db⟩ | (go_keep; done) | exact ⟨two_keep (by go_grown) na ca da, two_keep (by go_grown) nb cb db⟩)
      (first
      | ((fail_if_success (have hx := H1)); go_at_call 7; refine (toBox_any b _ _ ((HA.out.below (by go_grown)).box) (by omega)).mono ?_; rintro e wa ⟨g1, rfl, ho, qa⟩; (first | (refine blk_have (T := wa.heap[w12.heap.size]? = some (Obj.cells #[.int .i64 0, .slice none 0 0] 29 (0, 0))) ?_ ?_; refine blk_below qa ?_; (focus ((repeat' (first | (with_reducible assumption) | (with_reducible refine blk_at ?_; first | rfl | (simp; done)) | (with_reducible refine blk_drew ?_) | (with_reducible refine blk_alloc ?_))); done)); intro zv1) | skip); have ba : Below w12.heap.size w12 wa := Below.trans (by go_grown) (qa.mono (by first | exact sv | exact Nat.le_trans sv (by simp) | omega)); clear ca da ea fa cb db eb fb na nb; obtain ⟨ca, da, ea, fa⟩ := (HA.out.below ba).cells; obtain ⟨cb, db, eb, fb⟩ := (HC.out.below ba).cells; have na := (HA.out.below ba).lt; have nb := (HC.out.below ba).lt; have ma := ne_both na; have mb := ne_both nb; have H1 := Lib.hid (ho.mail (by omega)); have sa := ba.size; have BA := Lib.hid ba; clear ho qa ba)
      | ((have hx := H1); (fail_if_success (have hx := H2)); go_at_call 8; refine (toIntS_any us _ _ ((HI.out.below (Below.trans BA.out (by go_grown))).at) (by omega)).mono ?_; rintro e wb ⟨g2, rfl, hoi, qb⟩; (first | have zv2 := blk_below qb zv1 | (refine blk_have (T := wb.heap[wa.heap.size]? = some (Obj.cells #[.int .i64 0, .slice none 0 0] 29 (0, 0))) ?_ ?_; refine blk_below qb ?_; (focus ((repeat' (first | (with_reducible assumption) | (with_reducible refine blk_at ?_; first | rfl | (simp; done)) | (with_reducible refine blk_drew ?_) | (with_reducible refine blk_alloc ?_))); done)); intro zv2) | skip); have bb : Below w12.heap.size w12 wb := Below.trans (Below.trans BA.out (by go_grown)) (qb.mono (by first | exact sa | exact Nat.le_trans sa (by simp) | omega)); clear ca da ea fa cb db eb fb na nb; obtain ⟨ca, da, ea, fa⟩ := (HA.out.below bb).cells; obtain ⟨cb, db, eb, fb⟩ := (HC.out.below bb).cells; have na := (HA.out.below bb).lt; have nb := (HC.out.below bb).lt; have ma := ne_both na; have mb := ne_both nb; have H1 := Lib.hid ((H1.out.below (by go_grown)).below qb); have H2 := Lib.hid (hoi.at (by omega)); have sb := bb.size; have BB := Lib.hid bb; (first | clear zv1 | skip); clear hoi qb bb hx)
      | ((have hx := H2); (fail_if_success (have hx := H3)); go_at_call 7; refine (toBox_any tb _ _ ((HC.out.below (Below.trans BB.out (by go_grown))).box) (by omega)).mono ?_; rintro e wx ⟨g3, rfl, ho, qc⟩; (first | have zv3 := blk_below qc zv2 | (refine blk_have (T := wx.heap[wb.heap.size]? = some (Obj.cells #[.int .i64 0, .slice none 0 0] 29 (0, 0))) ?_ ?_; refine blk_below qc ?_; (focus ((repeat' (first | (with_reducible assumption) | (with_reducible refine blk_at ?_; first | rfl | (simp; done)) | (with_reducible refine blk_drew ?_) | (with_reducible refine blk_alloc ?_))); done)); intro zv3) | skip); have bc : Below w12.heap.size w12 wx := Below.trans (Below.trans BB.out (by go_grown)) (qc.mono (by first | exact sb | exact Nat.le_trans sb (by simp) | omega)); clear ca da ea fa cb db eb fb na nb; obtain ⟨ca, da, ea, fa⟩ := (HA.out.below bc).cells; obtain ⟨cb, db, eb, fb⟩ := (HC.out.below bc).cells; have na := (HA.out.below bc).lt; have nb := (HC.out.below bc).lt; have ma := ne_both na; have mb := ne_both nb; have H1 := Lib.hid ((H1.out.below (by go_grown)).below qc); have H2 := Lib.hid ((H2.out.below (by go_grown)).below qc); have H3 := Lib.hid (ho.mail (by omega)); have sc := bc.size; have BX := Lib.hid bc; (first | clear zv2 | skip); clear ho qc bc hx)
      | ((have hx := H3); go_at_call 6; refine (specBoxCopy_any b tb us _ _ _ _ ⟨_, rfl, H1.out.below (by go_grown)⟩ (H2.out.below (by go_grown)) ⟨_, rfl, H3.out.below (by go_grown)⟩).mono ?_; rintro e wd ⟨s, rfl, ho, qd⟩; (first | have zv4 := blk_below qd zv3 | (refine blk_have (T := wd.heap[wx.heap.size]? = some (Obj.cells #[.int .i64 0, .slice none 0 0] 29 (0, 0))) ?_ ?_; refine blk_below qd ?_; (focus ((repeat' (first | (with_reducible assumption) | (with_reducible refine blk_at ?_; first | rfl | (simp; done)) | (with_reducible refine blk_drew ?_) | (with_reducible refine blk_alloc ?_))); done)); intro zv4) | skip); have bd : Below w12.heap.size w12 wd := Below.trans (Below.trans BX.out (by go_grown)) (qd.mono (by first | exact sc | exact Nat.le_trans sc (by simp) | omega)); clear ca da ea fa cb db eb fb na nb; obtain ⟨ca, da, ea, fa⟩ := (HA.out.below bd).cells; obtain ⟨cb, db, eb, fb⟩ := (HC.out.below bd).cells; have na := (HA.out.below bd).lt; have nb := (HC.out.below bd).lt; have ma := ne_both na; have mb := ne_both nb; rw [HT.out] at ho ⊢; obtain ⟨aw, cw, rfl⟩ := ho.slice; have OW := Lib.hid (ho.more (by first | exact sc | exact Nat.le_trans sc (by simp) | omega)); have sd := bd.size; have BD := Lib.hid bd; (first | (obtain ⟨d0, d1, e0, e1⟩ := two_cells zv4; have lz := lt_of_block zv4; have ZV := Lib.hid zv4) | skip); (first | clear zv4 | skip); (first | clear zv3 | skip); clear ho qd bd hx)
      | fail)
    all_goals
      go_wp2_with fail
      go_meet
      first
        | exact ⟨_, _, aw, cw, rfl, rfl, bc_alloc OW.out (by omega), BD.out.alloc BD.out.size _⟩
        | exact ⟨_, _, aw, cw, rfl, rfl, bc_store ZV.out OW.out (by omega), (BD.out.setCell (by first | assumption | exact Nat.le_refl _ | (dsimp only; omega)) _).setCell (by first | assumption | exact Nat.le_refl _ | (dsimp only; omega)) _⟩
  obtain ⟨w13, rfl⟩ : ∃ x, x = wc := ⟨_, rfl⟩
  obtain ⟨kW0, tW0, aW0, cW0, rfl, rfl, W0, HQ⟩ := hcut
  replace W0 := W0.out
  have q := HQ.out
  replace A := A.below q
  replace C := C.below q
  replace I := I.below q
  replace bel := bel.trans (q.mono bel.size)
  have s3 := q.size
  clear HQ q HA HC HI ca da ea fa cb db eb fb na nb ma mb
  have tpW0 := W0.top
  obtain ⟨c5, d5, e5, f5⟩ := A.cells
  have n5 := A.lt
  go_wp2_with fail
  refine (toBox_any b _ _ A.box (by omega)).mono ?_
  rintro e w14 ⟨gx, rfl, ho, q⟩
  replace A := A.below q
  replace C := C.below q
  replace I := I.below q
  replace W0 := W0.below q
  replace bel := bel.trans (q.mono bel.size)
  have s4 := q.size
  clear c5 d5 e5 f5 n5
  clear q
  obtain ⟨w15, hw6, X, r6, z6⟩ := new_bc (b := b) ho (by omega)
  replace A := A.below r6
  replace C := C.below r6
  replace I := I.below r6
  replace W0 := W0.below r6
  replace bel := bel.trans (r6.mono bel.size)
  have s5 := r6.size
  have lz6 := Nat.le_of_eq z6.symm
  have HW := Lib.hid hw6
  clear hw6 r6 z6 ho
  go_wp2_with fail
  rw [← HW.out]
  refine (toIntS_any us _ _ I.at (by omega)).mono ?_
  rintro e w16 ⟨gp, rfl, hoi, q⟩
  replace A := A.below q
  replace C := C.below q
  replace I := I.below q
  replace W0 := W0.below q
  replace X := X.below q
  replace bel := bel.trans (q.mono bel.size)
  have s6 := q.size
  clear HW
  clear q
  have P := new_nc (l := us) hoi (by omega)
  clear hoi
  obtain ⟨c7, d7, e7, f7⟩ := C.cells
  have n7 := C.lt
  go_wp2_with fail
  refine (toBox_any tb _ _ C.box (by omega)).mono ?_
  rintro e w17 ⟨gz, rfl, ho, q⟩
  replace A := A.below q
  replace C := C.below q
  replace I := I.below q
  replace W0 := W0.below q
  replace X := X.below q
  replace P := P.below q
  replace bel := bel.trans (q.mono bel.size)
  have s7 := q.size
  clear c7 d7 e7 f7 n7
  clear q
  obtain ⟨c8, d8, e8, f8⟩ := X.cells
  have n8 := X.lt
  obtain ⟨w18, hw9, Z, r9, z9⟩ := new_bc (b := tb) ho (by omega)
  replace A := A.below r9
  replace C := C.below r9
  replace I := I.below r9
  replace W0 := W0.below r9
  replace X := X.below r9
  replace P := P.below r9
  replace bel := bel.trans (r9.mono bel.size)
  have s8 := r9.size
  have lz9 := Nat.le_of_eq z9.symm
  have HW := Lib.hid hw9
  clear hw9 r9 z9 ho
  go_wp2_with fail
  rw [← HW.out]
  refine (implBoxCopy_any b tb us _ _ _ _ X.box P.at Z.box).mono ?_
  rintro e w19 ⟨s, rfl, ho, q⟩
  replace A := A.below q
  replace C := C.below q
  replace I := I.below q
  replace W0 := W0.below q
  replace X := X.below q
  replace P := P.below q
  replace Z := Z.below q
  replace bel := bel.trans (q.mono bel.size)
  have s9 := q.size
  clear c8 d8 e8 f8 n8 HW
  clear q
  rw [HT.out] at ho ⊢
  obtain ⟨ag, cg, rfl⟩ := ho.slice
  obtain ⟨c10, d10, e10, f10⟩ := W0.cells
  have n10 := W0.lt
  obtain ⟨w20, hw11, Y, r11, z11⟩ := new_bc (b := T.1) ho (by omega)
  replace A := A.below r11
  replace C := C.below r11
  replace I := I.below r11
  replace W0 := W0.below r11
  replace X := X.below r11
  replace P := P.below r11
  replace Z := Z.below r11
  replace bel := bel.trans (r11.mono bel.size)
  have s10 := r11.size
  have lz11 := Nat.le_of_eq z11.symm
  have HW := Lib.hid hw11
  clear hw11 r11 z11 ho
  go_wp2_with fail
  rw [← HW.out]
  refine (eqBox_any T.1 _ _ _ Y.box W0.box).mono ?_
  rintro e w21 ⟨rfl, q⟩
  replace A := A.below q
  replace C := C.below q
  replace I := I.below q
  replace W0 := W0.below q
  replace X := X.below q
  replace P := P.below q
  replace Z := Z.below q
  replace Y := Y.below q
  replace bel := bel.trans (q.mono bel.size)
  have s11 := q.size
  clear c10 d10 e10 f10 n10 HW
  clear q
  obtain ⟨c12, d12, e12, f12⟩ := A.cells
  have n12 := A.lt
  obtain ⟨c13, d13, e13, f13⟩ := X.cells
  have n13 := X.lt
  have HX := Lib.hid X; have HA := Lib.hid A
  go_wp2_with fail
  go_region_held3 (fun W => (W.cell? ⟨w.heap.size, 0, none⟩ = some (.int .i64 b.next) ∧ W.cell? ⟨w.heap.size, 1, none⟩ = some (.slice a b.mail.length cap)) ∧ W.cell? ⟨w14.heap.size, 0, none⟩ = some (.int .i64 b.next) ∧ W.cell? ⟨w14.heap.size, 1, none⟩ = some (.slice (some ⟨gx, 0, none⟩) b.mail.length b.mail.length)) (first | with_reducible exact ⟨⟨c12, d12⟩, c13, d13⟩ | (go_keep; done))
    (first
    | ((fail_if_success (have hx := HO)); go_at_call 7; refine (toBox_any b _ _ ((HA.out.below (by go_grown)).box) (by omega)).mono ?_; rintro e wa ⟨gt, rfl, ho, qa⟩; have ba : Below w21.heap.size w21 wa := Below.trans (by go_grown) qa; clear c12 d12 e12 f12 c13 d13 e13 f13; obtain ⟨c12, d12, e12, f12⟩ := (HA.out.below ba).cells; obtain ⟨c13, d13, e13, f13⟩ := (HX.out.below ba).cells; have HO := Lib.hid (ho.mail (by omega)); have BA := Lib.hid ba; clear ho qa ba)
    | (have hx := HO; go_at_call 10; refine (eqBox_any b _ _ _ ((HX.out.below (Below.trans BA.out (by go_grown))).box) ⟨_, rfl, HO.out.below (by go_grown)⟩).mono ?_; rintro e wb ⟨rfl, qb⟩; have bb : Below w21.heap.size w21 wb := Below.trans BA.out ((Below.trans (by go_grown) qb).mono BA.out.size); clear c12 d12 e12 f12 c13 d13 e13 f13; obtain ⟨c12, d12, e12, f12⟩ := (HA.out.below bb).cells; obtain ⟨c13, d13, e13, f13⟩ := (HX.out.below bb).cells; have BB := Lib.hid bb; clear hx HO qb bb)
    | fail)
  have q := BB.out
  replace A := A.below q
  replace C := C.below q
  replace I := I.below q
  replace W0 := W0.below q
  replace X := X.below q
  replace P := P.below q
  replace Z := Z.below q
  replace Y := Y.below q
  replace bel := bel.trans (q.mono bel.size)
  have s12 := q.size
  clear c12 d12 e12 f12 n12 c13 d13 e13 f13 n13
  clear HX HA BA BB q
  go_wp2_with fail
  refine (toIntS_any us _ _ I.at (by omega)).mono ?_
  rintro e w22 ⟨gq, rfl, hoi, q⟩
  replace A := A.below q
  replace C := C.below q
  replace I := I.below q
  replace W0 := W0.below q
  replace X := X.below q
  replace P := P.below q
  replace Z := Z.below q
  replace Y := Y.below q
  replace bel := bel.trans (q.mono bel.size)
  have s13 := q.size
  clear q
  go_wp2_with fail
  refine (eqIntS_any us _ _ _ P.at (hoi.at (by omega))).mono ?_
  rintro e w23 ⟨rfl, q⟩
  replace A := A.below q
  replace C := C.below q
  replace I := I.below q
  replace W0 := W0.below q
  replace X := X.below q
  replace P := P.below q
  replace Z := Z.below q
  replace Y := Y.below q
  replace bel := bel.trans (q.mono bel.size)
  have s14 := q.size
  clear q
  clear hoi
  obtain ⟨c14, d14, e14, f14⟩ := C.cells
  have n14 := C.lt
  obtain ⟨c15, d15, e15, f15⟩ := Z.cells
  have n15 := Z.lt
  have HX := Lib.hid Z; have HA := Lib.hid C
  go_wp2_with fail
  go_region_held3 (fun W => (W.cell? ⟨w.heap.size + 1, 0, none⟩ = some (.int .i64 tb.next) ∧ W.cell? ⟨w.heap.size + 1, 1, none⟩ = some (.slice a2 tb.mail.length cap2)) ∧ W.cell? ⟨w17.heap.size, 0, none⟩ = some (.int .i64 tb.next) ∧ W.cell? ⟨w17.heap.size, 1, none⟩ = some (.slice (some ⟨gz, 0, none⟩) tb.mail.length tb.mail.length)) (first | with_reducible exact ⟨⟨c14, d14⟩, c15, d15⟩ | (go_keep; done))
    (first
    | ((fail_if_success (have hx := HO)); go_at_call 7; refine (toBox_any tb _ _ ((HA.out.below (by go_grown)).box) (by omega)).mono ?_; rintro e wa ⟨gt, rfl, ho, qa⟩; have ba : Below w23.heap.size w23 wa := Below.trans (by go_grown) qa; clear c14 d14 e14 f14 c15 d15 e15 f15; obtain ⟨c14, d14, e14, f14⟩ := (HA.out.below ba).cells; obtain ⟨c15, d15, e15, f15⟩ := (HX.out.below ba).cells; have HO := Lib.hid (ho.mail (by omega)); have BA := Lib.hid ba; clear ho qa ba)
    | (have hx := HO; go_at_call 10; refine (eqBox_any tb _ _ _ ((HX.out.below (Below.trans BA.out (by go_grown))).box) ⟨_, rfl, HO.out.below (by go_grown)⟩).mono ?_; rintro e wb ⟨rfl, qb⟩; have bb : Below w23.heap.size w23 wb := Below.trans BA.out ((Below.trans (by go_grown) qb).mono BA.out.size); clear c14 d14 e14 f14 c15 d15 e15 f15; obtain ⟨c14, d14, e14, f14⟩ := (HA.out.below bb).cells; obtain ⟨c15, d15, e15, f15⟩ := (HX.out.below bb).cells; have BB := Lib.hid bb; clear hx HO qb bb)
    | fail)
  have q := BB.out
  replace A := A.below q
  replace C := C.below q
  replace I := I.below q
  replace W0 := W0.below q
  replace X := X.below q
  replace P := P.below q
  replace Z := Z.below q
  replace Y := Y.below q
  replace bel := bel.trans (q.mono bel.size)
  have s15 := q.size
  clear c14 d14 e14 f14 n14 c15 d15 e15 f15 n15
  clear HX HA BA BB q
  obtain ⟨z1, hz1⟩ : ∃ z : Nat, z = 1 + b.mail.length * 3 := ⟨_, rfl⟩
  have Z1 := Lib.hid hz1
  clear hz1
  obtain ⟨c16, d16, e16, f16⟩ := X.cells
  have n16 := X.lt
  go_wp2_with fail
  refine (markBox_z b _ _ _ _ _ z1 _ X (by omega) (by omega) _ 1 rfl (by omega) (by omega) Z1.out).mono ?_
  rintro e w24 ⟨rfl, ho, hg⟩
  replace A := A.mark X.cell.own (by decide) (by omega) hg
  replace C := C.mark X.cell.own (by decide) (by omega) hg
  replace I := I.mark X.cell.own (by omega) hg
  replace W0 := W0.mark X.cell.own X.up (by omega) hg
  replace P := P.mark X.cell.own hg
  replace Z := Z.mark X.cell.own X.up (by omega) hg
  replace Y := Y.mark X.cell.own X.up (by omega) hg
  replace bel := bel_mark bel X.cell.own (by omega) hg
  have s16 := hg.size
  clear X
  clear c16 d16 e16 f16 n16
  clear ho hg
  have z1a : 1 ≤ z1 := by have := Z1.out; omega
  have z1b : z1 ≤ 10000000 := by have := Z1.out; omega
  obtain ⟨z4, hz4⟩ : ∃ z : Nat, z = z1 + us.length := ⟨_, rfl⟩
  have Z4 := Lib.hid hz4
  clear hz4
  go_wp2_with fail
  refine (markIntS_z us _ _ _ _ z4 _ P (by omega) _ z1 rfl (by omega) (by omega) Z4.out).mono ?_
  rintro e w25 ⟨rfl, ho, hg⟩
  replace A := A.mark P.own (by decide) (by omega) hg
  replace C := C.mark P.own (by decide) (by omega) hg
  replace I := I.mark P.own (by omega) hg
  replace W0 := W0.markI P.own hg
  replace Z := Z.markI P.own hg
  replace Y := Y.markI P.own hg
  replace bel := bel_mark bel P.own (by omega) hg
  have s17 := hg.size
  clear P
  clear ho hg
  have z4a : 1 ≤ z4 := by have := Z4.out; omega
  have z4b : z4 ≤ 20000000 := by have := Z4.out; omega
  obtain ⟨z5, hz5⟩ : ∃ z : Nat, z = z4 + tb.mail.length * 3 := ⟨_, rfl⟩
  have Z5 := Lib.hid hz5
  clear hz5
  obtain ⟨c17, d17, e17, f17⟩ := Z.cells
  have n17 := Z.lt
  go_wp2_with fail
  refine (markBox_z tb _ _ _ _ _ z5 _ Z (by omega) (by omega) _ z4 rfl (by omega) (by omega) Z5.out).mono ?_
  rintro e w26 ⟨rfl, ho, hg⟩
  replace A := A.mark Z.cell.own (by decide) (by omega) hg
  replace C := C.mark Z.cell.own (by decide) (by omega) hg
  replace I := I.mark Z.cell.own (by omega) hg
  replace W0 := W0.mark Z.cell.own Z.up (by omega) hg
  replace Y := Y.mark Z.cell.own Z.up (by omega) hg
  replace bel := bel_mark bel Z.cell.own (by omega) hg
  have s18 := hg.size
  clear Z
  clear c17 d17 e17 f17 n17
  clear ho hg
  obtain ⟨c18, d18, e18, f18⟩ := Y.cells
  have n18 := Y.lt
  obtain ⟨c19, d19, e19, f19⟩ := W0.cells
  have n19 := W0.lt
  go_wp2_with fail
  refine (eqBox_any T.1 _ _ _ Y.box W0.box).mono ?_
  rintro e w27 ⟨rfl, q⟩
  replace A := A.below q
  replace C := C.below q
  replace I := I.below q
  replace W0 := W0.below q
  replace Y := Y.below q
  replace bel := bel.trans (q.mono bel.size)
  have s19 := q.size
  clear c18 d18 e18 f18 n18 c19 d19 e19 f19 n19
  clear q
  obtain ⟨z2, hz2⟩ : ∃ z : Nat, z = 1 + T.1.mail.length * 3 := ⟨_, rfl⟩
  have Z2 := Lib.hid hz2
  clear hz2
  obtain ⟨c20, d20, e20, f20⟩ := Y.cells
  have n20 := Y.lt
  go_wp2_with fail
  refine (markBox_z T.1 _ _ _ _ _ z2 _ Y (by omega) (by omega) _ 1 rfl (by omega) (by omega) Z2.out).mono ?_
  rintro e w28 ⟨rfl, ho, hg⟩
  replace A := A.mark Y.cell.own (by decide) (by omega) hg
  replace C := C.mark Y.cell.own (by decide) (by omega) hg
  replace I := I.mark Y.cell.own (by omega) hg
  replace W0 := W0.mark Y.cell.own Y.up (by omega) hg
  replace bel := bel_mark bel Y.cell.own (by omega) hg
  have s20 := hg.size
  replace Y := Y.self (markM_length _ _) ho hg
  clear c20 d20 e20 f20 n20
  clear ho hg
  obtain ⟨bm, hbm⟩ : ∃ B' : B, B' = ⟨T.1.next, markM 1 T.1.mail⟩ := ⟨_, rfl⟩
  rw [← hbm] at Y
  have BM : Hid (bm.mail = markM 1 T.1.mail) := by rw [hbm]; rfl
  clear hbm
  obtain ⟨c21, d21, e21, f21⟩ := Y.cells
  have n21 := Y.lt
  go_wp2_with fail
  refine (heldBox_z T.1 bm _ _ _ _ _ z2 _ Y (by omega) _ 1 rfl BM.out (by omega) (by omega) Z2.out).mono ?_
  rintro e w29 ⟨rfl, q⟩
  replace A := A.below q
  replace C := C.below q
  replace I := I.below q
  replace W0 := W0.below q
  replace Y := Y.below q
  replace bel := bel.trans (q.mono bel.size)
  have s21 := q.size
  clear c21 d21 e21 f21 n21
  clear q
  clear s1 s2 s3 s4 s5 s6 s7 s8 s9 s10 s11 s12 s13 s14 s15 s16 s17 s18 s19 s20 s21 tpW0 z1a z1b z4a z4b
  replace W0 := Lib.hid W0; replace Y := Lib.hid Y
  obtain ⟨c22, d22, e22, f22⟩ := A.cells
  have n22 := A.lt
  obtain ⟨c23, d23, e23, f23⟩ := C.cells
  have n23 := C.lt
  go_wp2_with fail
  go_upto_region 37 with fail
  clear c22 d22 e22 f22 n22 c23 d23 e23 f23 n23
  obtain ⟨ca, da, ea, fa⟩ := A.cells
  obtain ⟨cb, db, eb, fb⟩ := C.cells
  have na := A.lt
  have nb := C.lt
  have ma := ne_both na; have mb := ne_both nb
  have HA := Lib.hid A; have HC := Lib.hid C; have HI := Lib.hid I
  go_cut [18, 19] (fun p8 q9 wk => ∃ (k top : Nat) (aw : Option Addr) (cw : Nat), p8 = .pointer (some ⟨k, 0, none⟩) ∧ q9 = .bool T.2 ∧ Hid (BC wk k w29.heap.size top T.1 aw cw) ∧ Hid (Below w29.heap.size w29 wk))
  case first =>
    try clear W0
    try clear Y
    try clear BM
    try clear Z1
    try clear Z2
    try clear Z4
    try clear Z5
    try clear X
    try clear Z
    try clear P
    try clear tpW0
    try clear tpW0'
    try clear z6
    try clear r6
    try clear lz6
    try clear r9
    try clear z9
    try clear lz9
    try clear r11
    try clear z11
    try clear lz11
    try clear HW
    try clear bel
    have sv : w29.heap.size ≤ w29.heap.size := Nat.le_refl _
    rename_i q1 q2 q3 q4 q5 q6 q7 q8 q9
    try clear q1
    try clear q2
    try clear q3
    go_region_held3 (fun W => (W.cell? ⟨w.heap.size, 0, none⟩ = some (.int .i64 b.next) ∧ W.cell? ⟨w.heap.size, 1, none⟩ = some (.slice a b.mail.length cap)) ∧ W.cell? ⟨w.heap.size + 1, 0, none⟩ = some (.int .i64 tb.next) ∧ W.cell? ⟨w.heap.size + 1, 1, none⟩ = some (.slice a2 tb.mail.length cap2)) (first | with_reducible exact ⟨⟨ca, da⟩, cb, db⟩ | (go_keep; done) | exact ⟨two_keep (by go_grown) na ca da, two_keep (by go_grown) nb cb db⟩)
      (first
      | ((fail_if_success (have hx := H1)); go_at_call 7; refine (toBox_any b _ _ ((HA.out.below (by go_grown)).box) (by omega)).mono ?_; rintro e wa ⟨g1, rfl, ho, qa⟩; (first | (refine blk_have (T := wa.heap[w29.heap.size]? = some (Obj.cells #[.int .i64 0, .slice none 0 0] 29 (0, 0))) ?_ ?_; refine blk_below qa ?_; (focus ((repeat' (first | (with_reducible assumption) | (with_reducible refine blk_at ?_; first | rfl | (simp; done)) | (with_reducible refine blk_drew ?_) | (with_reducible refine blk_alloc ?_))); done)); intro zv1) | skip); have ba : Below w29.heap.size w29 wa := Below.trans (by go_grown) (qa.mono (by first | exact sv | exact Nat.le_trans sv (by simp) | omega)); clear ca da ea fa cb db eb fb na nb; obtain ⟨ca, da, ea, fa⟩ := (HA.out.below ba).cells; obtain ⟨cb, db, eb, fb⟩ := (HC.out.below ba).cells; have na := (HA.out.below ba).lt; have nb := (HC.out.below ba).lt; have ma := ne_both na; have mb := ne_both nb; have H1 := Lib.hid (ho.mail (by omega)); have sa := ba.size; have BA := Lib.hid ba; clear ho qa ba)
      | ((have hx := H1); (fail_if_success (have hx := H2)); go_at_call 8; refine (toIntS_any us _ _ ((HI.out.below (Below.trans BA.out (by go_grown))).at) (by omega)).mono ?_; rintro e wb ⟨g2, rfl, hoi, qb⟩; (first | have zv2 := blk_below qb zv1 | (refine blk_have (T := wb.heap[wa.heap.size]? = some (Obj.cells #[.int .i64 0, .slice none 0 0] 29 (0, 0))) ?_ ?_; refine blk_below qb ?_; (focus ((repeat' (first | (with_reducible assumption) | (with_reducible refine blk_at ?_; first | rfl | (simp; done)) | (with_reducible refine blk_drew ?_) | (with_reducible refine blk_alloc ?_))); done)); intro zv2) | skip); have bb : Below w29.heap.size w29 wb := Below.trans (Below.trans BA.out (by go_grown)) (qb.mono (by first | exact sa | exact Nat.le_trans sa (by simp) | omega)); clear ca da ea fa cb db eb fb na nb; obtain ⟨ca, da, ea, fa⟩ := (HA.out.below bb).cells; obtain ⟨cb, db, eb, fb⟩ := (HC.out.below bb).cells; have na := (HA.out.below bb).lt; have nb := (HC.out.below bb).lt; have ma := ne_both na; have mb := ne_both nb; have H1 := Lib.hid ((H1.out.below (by go_grown)).below qb); have H2 := Lib.hid (hoi.at (by omega)); have sb := bb.size; have BB := Lib.hid bb; (first | clear zv1 | skip); clear hoi qb bb hx)
      | ((have hx := H2); (fail_if_success (have hx := H3)); go_at_call 7; refine (toBox_any tb _ _ ((HC.out.below (Below.trans BB.out (by go_grown))).box) (by omega)).mono ?_; rintro e wx ⟨g3, rfl, ho, qc⟩; (first | have zv3 := blk_below qc zv2 | (refine blk_have (T := wx.heap[wb.heap.size]? = some (Obj.cells #[.int .i64 0, .slice none 0 0] 29 (0, 0))) ?_ ?_; refine blk_below qc ?_; (focus ((repeat' (first | (with_reducible assumption) | (with_reducible refine blk_at ?_; first | rfl | (simp; done)) | (with_reducible refine blk_drew ?_) | (with_reducible refine blk_alloc ?_))); done)); intro zv3) | skip); have bc : Below w29.heap.size w29 wx := Below.trans (Below.trans BB.out (by go_grown)) (qc.mono (by first | exact sb | exact Nat.le_trans sb (by simp) | omega)); clear ca da ea fa cb db eb fb na nb; obtain ⟨ca, da, ea, fa⟩ := (HA.out.below bc).cells; obtain ⟨cb, db, eb, fb⟩ := (HC.out.below bc).cells; have na := (HA.out.below bc).lt; have nb := (HC.out.below bc).lt; have ma := ne_both na; have mb := ne_both nb; have H1 := Lib.hid ((H1.out.below (by go_grown)).below qc); have H2 := Lib.hid ((H2.out.below (by go_grown)).below qc); have H3 := Lib.hid (ho.mail (by omega)); have sc := bc.size; have BX := Lib.hid bc; (first | clear zv2 | skip); clear ho qc bc hx)
      | ((have hx := H3); go_at_call 9; refine (implBoxCopy_any b tb us _ _ _ _ ⟨_, rfl, H1.out.below (by go_grown)⟩ (H2.out.below (by go_grown)) ⟨_, rfl, H3.out.below (by go_grown)⟩).mono ?_; rintro e wd ⟨s, rfl, ho, qd⟩; (first | have zv4 := blk_below qd zv3 | (refine blk_have (T := wd.heap[wx.heap.size]? = some (Obj.cells #[.int .i64 0, .slice none 0 0] 29 (0, 0))) ?_ ?_; refine blk_below qd ?_; (focus ((repeat' (first | (with_reducible assumption) | (with_reducible refine blk_at ?_; first | rfl | (simp; done)) | (with_reducible refine blk_drew ?_) | (with_reducible refine blk_alloc ?_))); done)); intro zv4) | skip); have bd : Below w29.heap.size w29 wd := Below.trans (Below.trans BX.out (by go_grown)) (qd.mono (by first | exact sc | exact Nat.le_trans sc (by simp) | omega)); clear ca da ea fa cb db eb fb na nb; obtain ⟨ca, da, ea, fa⟩ := (HA.out.below bd).cells; obtain ⟨cb, db, eb, fb⟩ := (HC.out.below bd).cells; have na := (HA.out.below bd).lt; have nb := (HC.out.below bd).lt; have ma := ne_both na; have mb := ne_both nb; rw [HT.out] at ho ⊢; obtain ⟨aw, cw, rfl⟩ := ho.slice; have OW := Lib.hid (ho.more (by first | exact sc | exact Nat.le_trans sc (by simp) | omega)); have sd := bd.size; have BD := Lib.hid bd; (first | (obtain ⟨d0, d1, e0, e1⟩ := two_cells zv4; have lz := lt_of_block zv4; have ZV := Lib.hid zv4) | skip); (first | clear zv4 | skip); (first | clear zv3 | skip); clear ho qd bd hx)
      | fail)
    all_goals
      go_wp2_with fail
      go_meet
      first
        | exact ⟨_, _, aw, cw, rfl, rfl, bc_alloc OW.out (by omega), BD.out.alloc BD.out.size _⟩
        | exact ⟨_, _, aw, cw, rfl, rfl, bc_store ZV.out OW.out (by omega), (BD.out.setCell (by first | assumption | exact Nat.le_refl _ | (dsimp only; omega)) _).setCell (by first | assumption | exact Nat.le_refl _ | (dsimp only; omega)) _⟩
  obtain ⟨w30, rfl⟩ : ∃ x, x = wc := ⟨_, rfl⟩
  obtain ⟨kV, tV, aV, cV, rfl, rfl, V, HQ⟩ := hcut
  replace V := V.out
  have q := HQ.out
  replace A := A.below q
  replace C := C.below q
  replace I := I.below q
  replace bel := bel.trans (q.mono bel.size)
  have s22 := q.size
  replace W0 := W0.out.below q
  replace Y := Y.out.below q
  clear HQ q HA HC HI ca da ea fa cb db eb fb na nb ma mb
  have tpV := V.top
  obtain ⟨c24, d24, e24, f24⟩ := V.cells
  have n24 := V.lt
  obtain ⟨c25, d25, e25, f25⟩ := W0.cells
  have n25 := W0.lt
  go_wp2_with fail
  refine (eqBox_any T.1 _ _ _ V.box W0.box).mono ?_
  rintro e w31 ⟨rfl, q⟩
  replace A := A.below q
  replace C := C.below q
  replace I := I.below q
  replace V := V.below q
  replace W0 := W0.below q
  replace Y := Y.below q
  replace bel := bel.trans (q.mono bel.size)
  have s23 := q.size
  clear c24 d24 e24 f24 n24 c25 d25 e25 f25 n25
  clear q
  obtain ⟨c26, d26, e26, f26⟩ := Y.cells
  have n26 := Y.lt
  go_wp2_with fail
  refine (heldBox_z T.1 bm _ _ _ _ _ z2 _ Y (by omega) _ 1 rfl BM.out (by omega) (by omega) Z2.out).mono ?_
  rintro e w32 ⟨rfl, q⟩
  replace A := A.below q
  replace C := C.below q
  replace I := I.below q
  replace V := V.below q
  replace W0 := W0.below q
  replace Y := Y.below q
  replace bel := bel.trans (q.mono bel.size)
  have s24 := q.size
  clear c26 d26 e26 f26 n26
  clear q
  go_wp2_with fail
  go_ret
  exact ⟨rfl, bel⟩
end Go.Proofs.Ytpahgjideppmoaa

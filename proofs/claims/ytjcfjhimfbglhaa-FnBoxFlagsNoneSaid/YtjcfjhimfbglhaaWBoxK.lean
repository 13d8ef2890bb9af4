/- WALKS: the changed flags: no places, places past the end, places twice. -/
import Derived.Test.YtjcfjhimfbglhaaPFlags
import Derived.Test.YtjcfjhimfbglhaaBoxCell
import Derived.Test.YtjcfjhimfbglhaaFlLaws
import Derived.Test.YtjcfjhimfbglhaaUids
import Derived.Test.YtjcfjhimfbglhaaPlaces
import Derived.Test.YtjcfjhimfbglhaaBlk
import Derived.IntWalk
import Derived.Deep.DrawnRows
namespace Go.Proofs.Ytjcfjhimfbglhaa
open Go.RowKit
set_option linter.unusedVariables false
attribute [local go_sem ↓] Go.wp_at_zero Go.wp_at_succ

set_option maxRecDepth 100000 in
set_option maxHeartbeats 20000000 in
theorem fnBoxFlagsNone.walk (a : Option Addr) (len cap : Nat) (hl : len ≤ cap) (hm : cap ≤ maxLen) (w : World) (hc : CodeAt w a len) :
    Calls Try.prog 7 #[.slice a len cap] w fun e w' => e = .returned (.bool true) ∧ Below w.heap.size w w' := by
  obtain ⟨j0, hj, hy0, hy1, hy2⟩ := info_parts Try.infoInt
  have HJ := Lib.hid hj; have HJ0 := Lib.hid hy0; have HJ1 := Lib.hid hy1; have HJ2 := Lib.hid hy2
  clear hj hy0 hy1 hy2
  unfold maxLen at hm
  by_cases h1 : 1048576 < len
  · go_enter Try.func7, Try.ntmps7
    go_wp2_with fail
    all_goals go_ret
    all_goals exact ⟨rfl, Below.refl _ _⟩
  go_enter Try.func7, Try.ntmps7
  go_wp2_with fail
  refine (DrawBoxFlags_any a len cap hl w hc).mono ?_
  clear hc
  rintro e w1 ⟨b, a1, cap1, gp, kp, cp, ps, how, o, rfl, hb, ⟨hp, hpl, hkp⟩, b1⟩
  have hl10 := hb.1.2.2
  have hpi := hp.at (by omega)
  obtain ⟨wx, hwx, X, qx, sx⟩ := new_box hb.2 (by omega)
  have bel := b1.trans (qx.mono b1.size)
  have s1 := b1.size
  have HP := Lib.hid (hpi.below qx)
  have HPL := Lib.hid hpl
  have HW := Lib.hid hwx
  clear hwx hb b1 qx hp hpi hpl
  go_wp2_with fail
  rw [← HW.out]
  refine (implBoxFlags_any b ps how o _ _ _ X.box HP.out).mono ?_
  rintro e w2 ⟨s, rfl, ho, q2⟩
  obtain ⟨a2, cap2, rfl⟩ := ho.slice
  have hRl := flagsTo_len b ps how o hl10
  have hok := @flagsTo_ok b ps how o
  have htwo := @flagsTo_two b ps how o
  obtain ⟨R, hR⟩ : ∃ R, flagsTo b ps how o = R := ⟨_, rfl⟩
  rw [hR] at ho hRl hok htwo ⊢
  have HR := Lib.hid hR; have HOK := Lib.hid hok; have HTWO := Lib.hid htwo
  obtain ⟨wy, hwy, Y, qy, sy⟩ := new_box ho (by omega)
  replace X := X.below q2
  replace HP := Lib.hid ((HP.out.below q2).below qy)
  obtain ⟨c0, c1, f0, f1⟩ := X.cells
  have n1 := X.lt
  have s2 := q2.size
  replace bel := (bel.trans (q2.mono bel.size)).trans (qy.mono (Nat.le_trans bel.size q2.size))
  replace X := X.below qy
  clear HW ho q2 qy hR hok htwo
  have HW := Lib.hid hwy
  clear hwy
  go_wp2_with fail
  rw [← HW.out]
  clear c0 c1 f0 f1
  refine (specBoxFlags_any b ps how o _ _ _ X.box HP.out).mono ?_
  rintro e w3 ⟨s, rfl, ho, q3⟩
  obtain ⟨a3, cap3, rfl⟩ := ho.slice
  rw [HR.out] at ho ⊢
  obtain ⟨wz, hwz, Z, qz, sz⟩ := new_box ho (by omega)
  replace X := (X.below q3).below qz
  replace HP := Lib.hid ((HP.out.below q3).below qz)
  replace Y := Y.below q3
  obtain ⟨c0, c1, f0, f1⟩ := Y.cells
  have n2 := Y.lt
  have s3 := q3.size
  replace Y := Y.below qz
  replace bel := (bel.trans (q3.mono bel.size)).trans (qz.mono (Nat.le_trans bel.size q3.size))
  clear HW ho q3 qz
  have HW := Lib.hid hwz
  clear hwz
  go_wp2_with fail
  rw [← HW.out]
  clear c0 c1 f0 f1
  refine (sameBox_any R.1 _ _ _ Y.box Z.box).mono ?_
  rintro e w4 ⟨rfl, q4⟩
  replace X := X.below q4
  replace Y := Y.below q4
  replace Z := Z.below q4
  replace HP := Lib.hid (HP.out.below q4)
  have s4 := q4.size
  replace bel := bel.trans (q4.mono bel.size)
  clear HW q4
  rcases hR2 : R.2 with _ | _
  ·
    obtain ⟨c0, c1, f0, f1⟩ := Y.cells
    obtain ⟨d0, d1, e0, e1⟩ := Z.cells
    go_wp2_with fail
    refine (sameBox_any R.1 _ _ _ Y.box Z.box).mono ?_
    rintro e w9 ⟨rfl, q9⟩
    replace bel := bel.trans (q9.mono bel.size)
    clear q9
    go_wp2_with fail
    go_ret
    exact ⟨rfl, bel⟩
  clear Z
  obtain ⟨o1, o2, o3, o4, _⟩ := HOK.out hR2
  have HN := Lib.hid (flagsTo_nil (b := b) (how := how) (o := o) o1 o3 o4)
  have HPA := Lib.hid (flagsTo_no (b := b) (ps := ps ++ [(b.mail.length : Int) + 1]) (how := how) (o := o) (.inr (.inl (numsOk_past b.mail.length ps))))
  have hkl := HPL.out
  have htw : (flagsTo b (ps ++ ps) how o).2 = decide (kp = 0) := by
    rcases hz : decide (kp = 0) with _ | _
    · rw [flagsTo_no (.inr (.inl (by rw [numsOk_twice, hkl, hz])))]
    · have : ps = [] := List.eq_nil_of_length_eq_zero (by rw [hkl]; simpa using hz)
      rw [this]
      show (flagsTo b [] how o).2 = true
      rw [HN.out]
  have HTW := Lib.hid htw
  clear htw HTWO HOK HR Y o1 o2 o3 o4 hkl
  obtain ⟨c0, c1, f0, f1⟩ := X.cells
  have zx' := X.lt
  obtain ⟨wn, hwn⟩ : ∃ wn, wn = w4.alloc (.cells #[] 3) := ⟨_, rfl⟩
  have qn : Below w4.heap.size w4 wn := by rw [hwn]; exact (Below.refl _ _).alloc (Nat.le_refl _) _
  have hni : IntsAt wn (.slice (some ⟨w4.heap.size, 0, none⟩) 0 0) [] := ⟨_, 0, 0, rfl, rfl, by omega, ⟨by omega, fun e => by cases e⟩, .inl rfl⟩
  replace bel := bel.trans (qn.mono bel.size)
  replace X := X.below qn
  replace HP := Lib.hid (HP.out.below qn)
  have HWN := Lib.hid hwn
  clear hwn qn hR2
  go_wp2_with fail
  rw [← HWN.out]
  clear c0 c1 f0 f1
  refine (implBoxFlags_any b [] how o _ _ _ X.box hni).mono ?_
  rintro e w7 ⟨s, rfl, ho, q7⟩
  obtain ⟨a7, cap7, rfl⟩ := ho.slice
  rw [HN.out] at ho ⊢
  dsimp only at ho ⊢
  obtain ⟨wy, hwy, Y, qy, sy⟩ := new_box ho (by omega)
  replace X := X.below q7
  have n7 := X.lt
  obtain ⟨c0, c1, f0, f1⟩ := X.cells
  replace X := X.below qy
  replace HP := Lib.hid ((HP.out.below q7).below qy)
  replace bel := (bel.trans (q7.mono bel.size)).trans (qy.mono (Nat.le_trans bel.size q7.size))
  have HW := Lib.hid hwy
  clear hwy ho q7 qy sy hni HWN
  go_upto_region 9 with fail
  rw [← HW.out]
  clear c0 c1 f0 f1 n7 HW HN
  -- GEN
  have HX := Lib.hid X
  clear sx sy sz
  have hxv := X.lt
  have mv := ne_both hxv
  have mv1 := ne_both (Nat.lt_add_right 1 hxv)
  have le0 := Nat.le_of_lt hxv
  have le1 : w1.heap.size ≤ _ + 1 := Nat.le_succ_of_le le0
  have lv1 := Nat.lt_add_right 1 hxv
  have lv2 := Nat.lt_add_right 1 lv1
  have mv2 := ne_both (Nat.lt_add_right 1 (Nat.lt_add_right 1 hxv))
  have x1 : IntKind.i64.wrap ((b.mail.length : Int) + 1) = (b.mail.length : Int) + 1 := IntWalk.i64_in _ (by omega)
  obtain ⟨c0, c1, f0, f1⟩ := X.cells
  have HY := Lib.hid Y
  clear X Y
  go_cut [14] (fun q wk => q = .bool false ∧ Hid (Below wy.heap.size wy wk))
  case first =>
    go_region_held3 (fun W => W.cell? ⟨w1.heap.size, 0, none⟩ = some (.int .i64 b.next) ∧ W.cell? ⟨w1.heap.size, 1, none⟩ = some (.slice a1 b.mail.length cap1)) (first | exact ⟨c0, c1⟩ | (go_keep; done) | exact two_keep (by go_grown) lt10 c0 c1 | exact two_keep (by go_grown) lt9 c0 c1 | exact two_keep (by go_grown) lt8 c0 c1 | exact two_keep (by go_grown) hxv c0 c1)
      (first
      | (have hx := HB; go_at_call 28; refine (implBoxFlags_any b (ps ++ [(b.mail.length : Int) + 1]) how o _ _ _ ((HX.out.below (Below.trans B9.out (by go_grown))).box) (HB.out.below (by go_grown))).mono ?_; rintro e w10 ⟨s, rfl, ho, q10⟩; (first | have zz := blk_below q10 z9 | have zz := blk_below q10 (blk_alloc z9) | (refine blk_have (T := w10.heap[w9.heap.size]? = some (Obj.cells #[.int .i64 0, .slice none 0 0] 29 (0, 0))) ?_ ?_; refine blk_below q10 ?_; (focus ((repeat' (first | (with_reducible assumption) | (with_reducible refine blk_at ?_; first | rfl | (simp; done)) | (with_reducible refine blk_drew ?_) | (with_reducible refine blk_alloc ?_))); done)); intro zz) | skip); have b10 : Below wy.heap.size wy w10 := Below.trans (Below.trans B9.out (by go_grown)) (q10.mono (by first | exact s9 | exact Nat.le_trans s9 (by simp))); obtain ⟨c0, c1, f0, f1⟩ := (HX.out.below b10).cells; obtain ⟨a10, cap10, rfl⟩ := ho.slice; rw [HPA.out] at ho ⊢; dsimp only [nobox] at ho ⊢; have lt10 := (HX.out.below b10).lt; have s10 := b10.size; have m10 := ne_both (lt_of_block ((b10.block w1.heap.size HX.out.lt).trans HX.out.block)); have B10 := Lib.hid b10; (first | (obtain ⟨d0, d1, e0, e1⟩ := two_cells zz; clear zz) | skip); (first | clear z9 | skip); (first | clear z8 | skip); (first | clear y8 | skip); clear ho q10 b10 hx HB)
      | (have hx := HA; refine step_append_any (by rfl) _ _ _ (by rfl) wy.heap.size 3 j0 (.int .i64 0) 1 8 Try.underlying37 HJ.out HJ0.out HJ1.out HJ2.out rfl (by decide) gA cA kp (ps.map (Value.int .i64)) (by rfl) (by first | exact HA.out | exact HA.out.alloc _ | exact (HA.out.alloc _).alloc _ | exact (HA.out.alloc _).drew | exact ((HA.out.alloc _).drew.alloc _).drew | exact ((HA.out.alloc _).alloc _).drew | exact (HA.out.alloc _).drew.alloc _ | exact HA.out.drew) _ 1 _ [.int .i64 ((b.mail.length : Int) + 1)] (by rfl) rfl (src_one (by ((repeat' (first | (with_reducible assumption) | (with_reducible refine blk_at ?_; first | rfl | (simp; done)) | (with_reducible refine blk_drew ?_) | (with_reducible refine blk_alloc ?_))); done))) (fun u hu => by simp at hu; subst hu; rfl) (by unfold maxLen; omega) (by omega) (Nat.le_trans s8 (by first | exact Nat.le_refl _ | omega | (simp; done) | (simp; omega))) ?_; intro gB cB w9 hown9 hgrow; (first | have z9 := blk_grow hgrow z8 ne8 | have z9 := blk_grow hgrow (blk_alloc z8) ne8 | have z9 := blk_grow hgrow (blk_alloc (blk_alloc z8)) ne8 | (refine blk_have (T := w9.heap[w8.heap.size]? = some (Obj.cells #[.int .i64 0, .slice none 0 0] 29 (0, 0))) ?_ ?_; refine blk_grow hgrow ?_ ?_; (focus ((repeat' (first | (with_reducible assumption) | (with_reducible refine blk_at ?_; first | rfl | (simp; done)) | (with_reducible refine blk_drew ?_) | (with_reducible refine blk_alloc ?_))); done)); omega; intro z9) | (refine blk_have (T := w9.heap[(w8.heap.size + 1)]? = some (Obj.cells #[.int .i64 0, .slice none 0 0] 29 (0, 0))) ?_ ?_; refine blk_grow hgrow ?_ ?_; (focus ((repeat' (first | (with_reducible assumption) | (with_reducible refine blk_at ?_; first | rfl | (simp; done)) | (with_reducible refine blk_drew ?_) | (with_reducible refine blk_alloc ?_))); done)); omega; intro z9) | skip); have b9 : Below wy.heap.size wy w9 := Below.grown (Below.trans B8.out (by go_grown)) hgrow (Nat.le_trans s8 (by first | exact Nat.le_refl _ | omega | (simp; done) | (simp; omega))) (fun k hk => by cases hk; exact l8); obtain ⟨c0, c1, f0, f1⟩ := (HX.out.below b9).cells; rw [← List.map_singleton, ← List.map_append] at hown9; have HB := Lib.hid (OwnInts.at (OwnInts.mk hown9).1 (by rw [List.length_append, HPL.out]; simp; omega)); have lt9 := (HX.out.below b9).lt; have s9 := b9.size; have m9 := ne_both (lt_of_block ((b9.block w1.heap.size HX.out.lt).trans HX.out.block)); have B9 := Lib.hid b9; clear hx hown9 hgrow b9 HA)
      | ((fail_if_success (have hx := HA)); (fail_if_success (have hx := HB)); refine step_append_any (by rfl) _ _ _ (by rfl) wy.heap.size 3 j0 (.int .i64 0) 1 8 Try.underlying37 HJ.out HJ0.out HJ1.out HJ2.out rfl (by decide) _ _ 0 [] (by rfl) (own_empty (by ((repeat' (first | (with_reducible assumption) | (with_reducible refine blk_at ?_; first | rfl | (simp; done)) | (with_reducible refine blk_drew ?_) | (with_reducible refine blk_alloc ?_))); done)) (by first | exact Nat.le_refl _ | omega | (simp; done) | (simp; omega))) (some ⟨gp, 0, none⟩) kp cp (ps.map (Value.int .i64)) (by rfl) (by rw [List.length_map, HPL.out]; omega) (HP.out.src.below (by go_grown)) (ints_one ps) (by unfold maxLen; omega) (by omega) (by first | exact Nat.le_refl _ | omega | (simp; done) | (simp; omega)) ?_; intro gA cA w8 hown8 hgrow; simp only [Nat.zero_add, List.nil_append] at hown8 ⊢; (first | (refine blk_have (T := w8.heap[wy.heap.size]? = some (Obj.cells #[.int .i64 0, .slice none 0 0] 29 (0, 0))) ?_ ?_; refine blk_grow hgrow ?_ ?_; (focus ((repeat' (first | (with_reducible assumption) | (with_reducible refine blk_at ?_; first | rfl | (simp; done)) | (with_reducible refine blk_drew ?_) | (with_reducible refine blk_alloc ?_))); done)); (first | (simp; done) | omega); intro z8) | (refine blk_have (T := w8.heap[(wy.heap.size + 1)]? = some (Obj.cells #[.int .i64 0, .slice none 0 0] 29 (0, 0))) ?_ ?_; refine blk_grow hgrow ?_ ?_; (focus ((repeat' (first | (with_reducible assumption) | (with_reducible refine blk_at ?_; first | rfl | (simp; done)) | (with_reducible refine blk_drew ?_) | (with_reducible refine blk_alloc ?_))); done)); (first | (simp; done) | omega); intro z8) | (refine blk_have (T := w8.heap[(wy.heap.size + 1 + 1)]? = some (Obj.cells #[.int .i64 0, .slice none 0 0] 29 (0, 0))) ?_ ?_; refine blk_grow hgrow ?_ ?_; (focus ((repeat' (first | (with_reducible assumption) | (with_reducible refine blk_at ?_; first | rfl | (simp; done)) | (with_reducible refine blk_drew ?_) | (with_reducible refine blk_alloc ?_))); done)); (first | (simp; done) | omega); intro z8) | skip); (first | (refine blk_have (T := w8.heap[wy.heap.size]? = some (Obj.cells #[.int .i64 ((b.mail.length : Int) + 1)] 3 (0, 0))) ?_ ?_; refine blk_grow hgrow ?_ ?_; (focus ((repeat' (first | (with_reducible assumption) | (with_reducible refine blk_at ?_; first | rfl | (simp; done)) | (with_reducible refine blk_drew ?_) | (with_reducible refine blk_alloc ?_))); done)); (first | (simp; done) | omega); intro y8) | (refine blk_have (T := w8.heap[(wy.heap.size + 1)]? = some (Obj.cells #[.int .i64 ((b.mail.length : Int) + 1)] 3 (0, 0))) ?_ ?_; refine blk_grow hgrow ?_ ?_; (focus ((repeat' (first | (with_reducible assumption) | (with_reducible refine blk_at ?_; first | rfl | (simp; done)) | (with_reducible refine blk_drew ?_) | (with_reducible refine blk_alloc ?_))); done)); (first | (simp; done) | omega); intro y8) | (refine blk_have (T := w8.heap[(wy.heap.size + 1 + 1)]? = some (Obj.cells #[.int .i64 ((b.mail.length : Int) + 1)] 3 (0, 0))) ?_ ?_; refine blk_grow hgrow ?_ ?_; (focus ((repeat' (first | (with_reducible assumption) | (with_reducible refine blk_at ?_; first | rfl | (simp; done)) | (with_reducible refine blk_drew ?_) | (with_reducible refine blk_alloc ?_))); done)); (first | (simp; done) | omega); intro y8) | skip); have b8 : Below wy.heap.size wy w8 := Below.grown (by go_grown) hgrow (by first | exact Nat.le_refl _ | omega | (simp; done) | (simp; omega)) (fun k hk => by cases hk; first | exact Nat.le_refl _ | omega | (simp; done) | (simp; omega)); obtain ⟨c0, c1, f0, f1⟩ := (HX.out.below b8).cells; obtain ⟨l8, l9⟩ := own_lt hown8; (first | have ne8 := blk_ne hown8 z8 (by decide) | skip); have HA := Lib.hid hown8; have lt8 := (HX.out.below b8).lt; have le8 := Nat.le_of_lt lt8; have lt8b := Nat.lt_add_right 1 lt8; have s8 := b8.size; have m8 := ne_both (lt_of_block ((b8.block w1.heap.size HX.out.lt).trans HX.out.block)); have m8b := ne_both (Nat.lt_add_right 1 (lt_of_block ((b8.block w1.heap.size HX.out.lt).trans HX.out.block))); have B8 := Lib.hid b8; clear hown8 hgrow b8))
    all_goals
      go_wp2_with fail
      go_meet
      first
        | exact ⟨rfl, B10.out.alloc B10.out.size _⟩
        | exact ⟨rfl, (B10.out.setCell (by first | exact Nat.le_refl _ | assumption | (dsimp only; omega)) _).setCell (by first | exact Nat.le_refl _ | assumption | (dsimp only; omega)) _⟩
  obtain ⟨rfl, HQ⟩ := hcut
  replace HX := Lib.hid (HX.out.below HQ.out)
  replace HY := Lib.hid (HY.out.below HQ.out)
  replace HP := Lib.hid (HP.out.below HQ.out)
  replace bel := bel.trans (HQ.out.mono bel.size)
  clear c0 c1 f0 f1 mv mv1 mv2 x1 HPA HQ hxv le0 le1 lv1 lv2
  obtain ⟨c0, c1, f0, f1⟩ := HX.out.cells
  have hxv := HX.out.lt
  have mv := ne_both hxv
  have mv1 := ne_both (Nat.lt_add_right 1 hxv)
  have le0 := Nat.le_of_lt hxv
  have le1 : w1.heap.size ≤ _ + 1 := Nat.le_succ_of_le le0
  have lv1 := Nat.lt_add_right 1 hxv
  have lv2 := Nat.lt_add_right 1 lv1
  have mv2 := ne_both (Nat.lt_add_right 1 (Nat.lt_add_right 1 HX.out.lt))
  go_upto_region 10 with fail
  go_cut [16] (fun q wk => q = .bool (decide (kp = 0)) ∧ Hid (Below wc.heap.size wc wk))
  case first =>
    go_region_held3 (fun W => W.cell? ⟨w1.heap.size, 0, none⟩ = some (.int .i64 b.next) ∧ W.cell? ⟨w1.heap.size, 1, none⟩ = some (.slice a1 b.mail.length cap1)) (first | exact ⟨c0, c1⟩ | (go_keep; done) | exact two_keep (by go_grown) lt10 c0 c1 | exact two_keep (by go_grown) lt9 c0 c1 | exact two_keep (by go_grown) lt8 c0 c1 | exact two_keep (by go_grown) hxv c0 c1)
      (first
      | (have hx := HB; go_at_call 28; refine (implBoxFlags_any b (ps ++ ps) how o _ _ _ ((HX.out.below (Below.trans B9.out (by go_grown))).box) (HB.out.below (by go_grown))).mono ?_; rintro e w10 ⟨s, rfl, ho, q10⟩; (first | have zz := blk_below q10 z9 | have zz := blk_below q10 (blk_alloc z9) | (refine blk_have (T := w10.heap[w9.heap.size]? = some (Obj.cells #[.int .i64 0, .slice none 0 0] 29 (0, 0))) ?_ ?_; refine blk_below q10 ?_; (focus ((repeat' (first | (with_reducible assumption) | (with_reducible refine blk_at ?_; first | rfl | (simp; done)) | (with_reducible refine blk_drew ?_) | (with_reducible refine blk_alloc ?_))); done)); intro zz) | skip); have b10 : Below wc.heap.size wc w10 := Below.trans (Below.trans B9.out (by go_grown)) (q10.mono (by first | exact s9 | exact Nat.le_trans s9 (by simp))); obtain ⟨c0, c1, f0, f1⟩ := (HX.out.below b10).cells; obtain ⟨a10, cap10, rfl⟩ := ho.slice; rw [HTW.out]; have lt10 := (HX.out.below b10).lt; have s10 := b10.size; have m10 := ne_both (lt_of_block ((b10.block w1.heap.size HX.out.lt).trans HX.out.block)); have B10 := Lib.hid b10; (first | (obtain ⟨d0, d1, e0, e1⟩ := two_cells zz; clear zz) | skip); (first | clear z9 | skip); (first | clear z8 | skip); (first | clear y8 | skip); clear ho q10 b10 hx HB)
      | (have hx := HA; refine step_append_any (by rfl) _ _ _ (by rfl) wc.heap.size 3 j0 (.int .i64 0) 1 8 Try.underlying37 HJ.out HJ0.out HJ1.out HJ2.out rfl (by decide) gA cA kp (ps.map (Value.int .i64)) (by rfl) (by first | exact HA.out | exact HA.out.alloc _ | exact (HA.out.alloc _).alloc _ | exact (HA.out.alloc _).drew | exact ((HA.out.alloc _).drew.alloc _).drew | exact ((HA.out.alloc _).alloc _).drew | exact (HA.out.alloc _).drew.alloc _ | exact HA.out.drew) _ kp _ (ps.map (Value.int .i64)) (by rfl) (by rw [List.length_map, HPL.out]; omega) (HP.out.src.below (Below.trans B8.out (by go_grown))) (ints_one ps) (by unfold maxLen; omega) (by omega) (Nat.le_trans s8 (by first | exact Nat.le_refl _ | omega | (simp; done) | (simp; omega))) ?_; intro gB cB w9 hown9 hgrow; (first | have z9 := blk_grow hgrow z8 ne8 | have z9 := blk_grow hgrow (blk_alloc z8) ne8 | have z9 := blk_grow hgrow (blk_alloc (blk_alloc z8)) ne8 | (refine blk_have (T := w9.heap[w8.heap.size]? = some (Obj.cells #[.int .i64 0, .slice none 0 0] 29 (0, 0))) ?_ ?_; refine blk_grow hgrow ?_ ?_; (focus ((repeat' (first | (with_reducible assumption) | (with_reducible refine blk_at ?_; first | rfl | (simp; done)) | (with_reducible refine blk_drew ?_) | (with_reducible refine blk_alloc ?_))); done)); omega; intro z9) | (refine blk_have (T := w9.heap[(w8.heap.size + 1)]? = some (Obj.cells #[.int .i64 0, .slice none 0 0] 29 (0, 0))) ?_ ?_; refine blk_grow hgrow ?_ ?_; (focus ((repeat' (first | (with_reducible assumption) | (with_reducible refine blk_at ?_; first | rfl | (simp; done)) | (with_reducible refine blk_drew ?_) | (with_reducible refine blk_alloc ?_))); done)); omega; intro z9) | skip); have b9 : Below wc.heap.size wc w9 := Below.grown (Below.trans B8.out (by go_grown)) hgrow (Nat.le_trans s8 (by first | exact Nat.le_refl _ | omega | (simp; done) | (simp; omega))) (fun k hk => by cases hk; exact l8); obtain ⟨c0, c1, f0, f1⟩ := (HX.out.below b9).cells; rw [← List.map_append] at hown9; have HB := Lib.hid (OwnInts.at (OwnInts.mk hown9).1 (by rw [List.length_append, HPL.out]; omega)); have lt9 := (HX.out.below b9).lt; have s9 := b9.size; have m9 := ne_both (lt_of_block ((b9.block w1.heap.size HX.out.lt).trans HX.out.block)); have B9 := Lib.hid b9; clear hx hown9 hgrow b9 HA)
      | ((fail_if_success (have hx := HA)); (fail_if_success (have hx := HB)); refine step_append_any (by rfl) _ _ _ (by rfl) wc.heap.size 3 j0 (.int .i64 0) 1 8 Try.underlying37 HJ.out HJ0.out HJ1.out HJ2.out rfl (by decide) _ _ 0 [] (by rfl) (own_empty (by ((repeat' (first | (with_reducible assumption) | (with_reducible refine blk_at ?_; first | rfl | (simp; done)) | (with_reducible refine blk_drew ?_) | (with_reducible refine blk_alloc ?_))); done)) (by first | exact Nat.le_refl _ | omega | (simp; done) | (simp; omega))) (some ⟨gp, 0, none⟩) kp cp (ps.map (Value.int .i64)) (by rfl) (by rw [List.length_map, HPL.out]; omega) (HP.out.src.below (by go_grown)) (ints_one ps) (by unfold maxLen; omega) (by omega) (by first | exact Nat.le_refl _ | omega | (simp; done) | (simp; omega)) ?_; intro gA cA w8 hown8 hgrow; simp only [Nat.zero_add, List.nil_append] at hown8 ⊢; (first | (refine blk_have (T := w8.heap[wc.heap.size]? = some (Obj.cells #[.int .i64 0, .slice none 0 0] 29 (0, 0))) ?_ ?_; refine blk_grow hgrow ?_ ?_; (focus ((repeat' (first | (with_reducible assumption) | (with_reducible refine blk_at ?_; first | rfl | (simp; done)) | (with_reducible refine blk_drew ?_) | (with_reducible refine blk_alloc ?_))); done)); (first | (simp; done) | omega); intro z8) | (refine blk_have (T := w8.heap[(wc.heap.size + 1)]? = some (Obj.cells #[.int .i64 0, .slice none 0 0] 29 (0, 0))) ?_ ?_; refine blk_grow hgrow ?_ ?_; (focus ((repeat' (first | (with_reducible assumption) | (with_reducible refine blk_at ?_; first | rfl | (simp; done)) | (with_reducible refine blk_drew ?_) | (with_reducible refine blk_alloc ?_))); done)); (first | (simp; done) | omega); intro z8) | (refine blk_have (T := w8.heap[(wc.heap.size + 1 + 1)]? = some (Obj.cells #[.int .i64 0, .slice none 0 0] 29 (0, 0))) ?_ ?_; refine blk_grow hgrow ?_ ?_; (focus ((repeat' (first | (with_reducible assumption) | (with_reducible refine blk_at ?_; first | rfl | (simp; done)) | (with_reducible refine blk_drew ?_) | (with_reducible refine blk_alloc ?_))); done)); (first | (simp; done) | omega); intro z8) | skip); have b8 : Below wc.heap.size wc w8 := Below.grown (by go_grown) hgrow (by first | exact Nat.le_refl _ | omega | (simp; done) | (simp; omega)) (fun k hk => by cases hk; first | exact Nat.le_refl _ | omega | (simp; done) | (simp; omega)); obtain ⟨c0, c1, f0, f1⟩ := (HX.out.below b8).cells; obtain ⟨l8, l9⟩ := own_lt hown8; (first | have ne8 := blk_ne hown8 z8 (by decide) | skip); have HA := Lib.hid hown8; have lt8 := (HX.out.below b8).lt; have le8 := Nat.le_of_lt lt8; have lt8b := Nat.lt_add_right 1 lt8; have s8 := b8.size; have m8 := ne_both (lt_of_block ((b8.block w1.heap.size HX.out.lt).trans HX.out.block)); have m8b := ne_both (Nat.lt_add_right 1 (lt_of_block ((b8.block w1.heap.size HX.out.lt).trans HX.out.block))); have B8 := Lib.hid b8; clear hown8 hgrow b8))
    all_goals
      go_wp2_with fail
      go_meet
      first
        | exact ⟨rfl, B10.out.alloc B10.out.size _⟩
        | exact ⟨rfl, (B10.out.setCell (by first | exact Nat.le_refl _ | assumption | (dsimp only; omega)) _).setCell (by first | exact Nat.le_refl _ | assumption | (dsimp only; omega)) _⟩
  obtain ⟨rfl, HQ⟩ := hcut
  replace HX := Lib.hid (HX.out.below HQ.out)
  replace HY := Lib.hid (HY.out.below HQ.out)
  replace bel := bel.trans (HQ.out.mono bel.size)
  clear c0 c1 f0 f1 mv mv1 mv2 hxv le0 le1 lv1 lv2 HQ HTW HP
  obtain ⟨c0, c1, f0, f1⟩ := HX.out.cells
  obtain ⟨d0, d1, e0, e1⟩ := HY.out.cells
  go_wp2_with fail
  refine (sameBox_any b _ _ _ HY.out.box HX.out.box).mono ?_
  rintro e w12 ⟨rfl, q12⟩
  replace bel := bel.trans (q12.mono bel.size)
  clear c0 c1 f0 f1 d0 d1 e0 e1 q12
  go_wp2_with fail
  go_ret
  exact ⟨ret_bool (by by_cases h : kp = 0 <;> simp [h]), bel⟩
end Go.Proofs.Ytjcfjhimfbglhaa

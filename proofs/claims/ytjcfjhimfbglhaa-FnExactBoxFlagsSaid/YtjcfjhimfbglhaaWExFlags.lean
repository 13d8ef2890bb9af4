/- WALK: the program's BoxFlags answers as the reference's, in memory of its own. -/
import Derived.Test.YtjcfjhimfbglhaaExCell
import Derived.Test.YtjcfjhimfbglhaaPFlags
import Derived.Test.YtjcfjhimfbglhaaSFlags
import Derived.Deep.DeepCutAuto
import Derived.Deep.DrawnRows
import Derived.IntWalk
namespace Go.Proofs.Ytjcfjhimfbglhaa
open Go.RowKit
set_option linter.unusedVariables false
attribute [local go_sem ↓] Go.wp_at_zero Go.wp_at_succ

set_option maxRecDepth 100000 in
set_option maxHeartbeats 4000000 in
theorem fnExactBoxFlags.walk (x : Int) (a : Option Addr) (len cap : Nat) (l : List M) (hl : len ≤ cap) (hm : cap ≤ maxLen) (a1 : Option Addr) (len1 cap1 : Nat) (us : List Int) (hl1 : len1 ≤ cap1) (hm1 : cap1 ≤ maxLen) (how : Int) (hhow : (Lit.int .i64 how).wf = true) (o : Int) (hho : (Lit.int .i64 o).wf = true) (w : World) (hc : MailIn w a len cap l) (hc1 : IntsIn w a1 len1 cap1 us) :
    Calls Try.prog 12 #[.agg #[.int .i64 x, .slice a len cap], .slice a1 len1 cap1, .int .i64 how, .int .i64 o] w fun e w' => e = .returned (.bool true) ∧ Below w.heap.size w w' := by
  obtain ⟨b, rfl, rfl⟩ : ∃ b : B, b.next = x ∧ b.mail = l := ⟨⟨x, l⟩, rfl, rfl⟩
  obtain ⟨hbl, hbn, htx, hbm⟩ := hc
  subst hbl
  have hul := hc1.1
  subst hul
  by_cases hus : 1048576 < us.length
  · unfold maxLen at hm1
    go_enter Try.func12, Try.ntmps12
    go_wp2_with fail
    go_ret
    exact ⟨rfl, by go_grown⟩
  by_cases hbig : 1048576 < b.mail.length
  · go_enter Try.func12, Try.ntmps12
    go_wp2_with fail
    refine (szBox_big _ _ _ _ _ _ (by omega) (by omega) hl hm hbig).mono ?_
    rintro e wn ⟨rfl, q⟩
    have bel : Below w.heap.size w wn := Below.trans (by go_grown) (q.mono (by simp))
    clear q
    go_wp2_with fail
    go_ret
    exact ⟨rfl, bel⟩
  obtain ⟨w1, hw1⟩ : ∃ w1, w1 = w.alloc (.cells #[.int .i64 b.next, .slice a b.mail.length cap] 24) := ⟨_, rfl⟩
  have bel : Below w.heap.size w w1 := by rw [hw1]; exact (Below.refl _ _).alloc (Nat.le_refl _) _
  have s0 : w.heap.size + 1 ≤ w1.heap.size := by rw [hw1]; simp
  have A : AC w1 w.heap.size w.heap.size b a cap := by
    refine ⟨by rw [hw1]; exact heap_alloc_new w _, ⟨hl, by omega, hbn⟩, ?_, by omega⟩
    rcases hbm with h0 | ⟨g, off, ha, hg, hc⟩
    · exact .inl h0
    · exact .inr ⟨g, off, ha, hg, fun i m hi => ⟨(bel.cell (p := ⟨g, _, none⟩) hg).trans (hc i m hi).1, (bel.cell (p := ⟨g, _, none⟩) hg).trans (hc i m hi).2.1, (bel.cell (p := ⟨g, _, none⟩) hg).trans (hc i m hi).2.2⟩⟩
  have HW := Lib.hid hw1
  clear hw1 hbm htx
  have I := AI.new hc1 hl1 (by omega) bel
  clear hc1
  go_enter Try.func12, Try.ntmps12
  obtain ⟨c1, d1, e1, f1⟩ := A.cells
  have n1 := A.lt
  go_wp2_with fail
  rw [← HW.out]
  refine (szBox_any b _ _ _ A.box (by omega) (by omega) (by omega)).mono ?_
  rintro e w11 ⟨y, rfl, q⟩
  replace A := A.below q
  replace I := I.below q
  replace bel := bel.trans (q.mono bel.size)
  have s1 := q.size
  clear c1 d1 e1 f1 n1 HW
  clear q
  by_cases hneg : y < 0
  · go_wp2_with fail
    go_ret
    exact ⟨rfl, bel⟩
  obtain ⟨c2, d2, e2, f2⟩ := A.cells
  have n2 := A.lt
  go_wp2_with fail
  refine (toBox_any b _ _ A.box (by omega)).mono ?_
  rintro e w12 ⟨gt, rfl, ho, q⟩
  replace A := A.below q
  replace I := I.below q
  replace bel := bel.trans (q.mono bel.size)
  have s2 := q.size
  clear c2 d2 e2 f2 n2
  clear q
  go_wp2_with fail
  refine (toIntS_any us _ _ I.at (by omega)).mono ?_
  rintro e w13 ⟨gi, rfl, hoi, q⟩
  replace A := A.below q
  replace I := I.below q
  replace ho := ho.below q
  replace bel := bel.trans (q.mono bel.size)
  have s3 := q.size
  clear q
  go_wp2_with fail
  refine (specBoxFlags_any b us how o _ _ _ ⟨_, rfl, ho.mail (by omega)⟩ (hoi.at (by omega))).mono ?_
  rintro e w14 ⟨s, rfl, ho, q⟩
  replace A := A.below q
  replace I := I.below q
  replace bel := bel.trans (q.mono bel.size)
  have s4 := q.size
  clear q
  clear hoi
  obtain ⟨T, hT⟩ : ∃ T, flagsTo b us how o = T := ⟨_, rfl⟩
  have hTl : T.1.mail.length ≤ 1048576 := by rw [← hT]; have := flagsTo_le b us how o; omega
  have HT := Lib.hid hT
  clear hT
  rw [HT.out] at ho ⊢
  obtain ⟨aw, cw, rfl⟩ := ho.slice
  obtain ⟨c3, d3, e3, f3⟩ := A.cells
  have n3 := A.lt
  obtain ⟨w15, hw4, W0, r4, z4⟩ := new_bc (b := T.1) ho (by omega)
  replace A := A.below r4
  replace I := I.below r4
  replace bel := bel.trans (r4.mono bel.size)
  have s5 := r4.size
  have lz4 := Nat.le_of_eq z4.symm
  have HW := Lib.hid hw4
  clear hw4 r4 z4 ho
  go_wp2_with fail
  rw [← HW.out]
  refine (toBox_any b _ _ A.box (by omega)).mono ?_
  rintro e w16 ⟨gx, rfl, ho, q⟩
  replace A := A.below q
  replace I := I.below q
  replace W0 := W0.below q
  replace bel := bel.trans (q.mono bel.size)
  have s6 := q.size
  clear c3 d3 e3 f3 n3 HW
  clear q
  obtain ⟨w17, hw5, X, r5, z5⟩ := new_bc (b := b) ho (by omega)
  replace A := A.below r5
  replace I := I.below r5
  replace W0 := W0.below r5
  replace bel := bel.trans (r5.mono bel.size)
  have s7 := r5.size
  have lz5 := Nat.le_of_eq z5.symm
  have HW := Lib.hid hw5
  clear hw5 r5 z5 ho
  go_wp2_with fail
  rw [← HW.out]
  refine (toIntS_any us _ _ I.at (by omega)).mono ?_
  rintro e w18 ⟨gp, rfl, hoi, q⟩
  replace A := A.below q
  replace I := I.below q
  replace W0 := W0.below q
  replace X := X.below q
  replace bel := bel.trans (q.mono bel.size)
  have s8 := q.size
  clear HW
  clear q
  have P := new_nc (l := us) hoi (by omega)
  clear hoi
  obtain ⟨c6, d6, e6, f6⟩ := X.cells
  have n6 := X.lt
  go_wp2_with fail
  refine (implBoxFlags_any b us how o _ _ _ X.box P.at).mono ?_
  rintro e w19 ⟨s, rfl, ho, q⟩
  replace A := A.below q
  replace I := I.below q
  replace W0 := W0.below q
  replace X := X.below q
  replace P := P.below q
  replace bel := bel.trans (q.mono bel.size)
  have s9 := q.size
  clear c6 d6 e6 f6 n6
  clear q
  rw [HT.out] at ho ⊢
  obtain ⟨ag, cg, rfl⟩ := ho.slice
  obtain ⟨c7, d7, e7, f7⟩ := W0.cells
  have n7 := W0.lt
  obtain ⟨w20, hw8, Y, r8, z8⟩ := new_bc (b := T.1) ho (by omega)
  replace A := A.below r8
  replace I := I.below r8
  replace W0 := W0.below r8
  replace X := X.below r8
  replace P := P.below r8
  replace bel := bel.trans (r8.mono bel.size)
  have s10 := r8.size
  have lz8 := Nat.le_of_eq z8.symm
  have HW := Lib.hid hw8
  clear hw8 r8 z8 ho
  go_wp2_with fail
  rw [← HW.out]
  refine (eqBox_any T.1 _ _ _ Y.box W0.box).mono ?_
  rintro e w21 ⟨rfl, q⟩
  replace A := A.below q
  replace I := I.below q
  replace W0 := W0.below q
  replace X := X.below q
  replace P := P.below q
  replace Y := Y.below q
  replace bel := bel.trans (q.mono bel.size)
  have s11 := q.size
  clear c7 d7 e7 f7 n7 HW
  clear q
  obtain ⟨c9, d9, e9, f9⟩ := A.cells
  have n9 := A.lt
  obtain ⟨c10, d10, e10, f10⟩ := X.cells
  have n10 := X.lt
  have HX := Lib.hid X; have HA := Lib.hid A
  go_wp2_with fail
  go_region_held3 (fun W => (W.cell? ⟨w.heap.size, 0, none⟩ = some (.int .i64 b.next) ∧ W.cell? ⟨w.heap.size, 1, none⟩ = some (.slice a b.mail.length cap)) ∧ W.cell? ⟨w16.heap.size, 0, none⟩ = some (.int .i64 b.next) ∧ W.cell? ⟨w16.heap.size, 1, none⟩ = some (.slice (some ⟨gx, 0, none⟩) b.mail.length b.mail.length)) (first | exact ⟨⟨c9, d9⟩, c10, d10⟩ | (go_keep; done))
    (first
    | ((fail_if_success (have hx := HO)); go_at_call 15; refine (toBox_any b _ _ ((HA.out.below (by go_grown)).box) (by omega)).mono ?_; rintro e wa ⟨gt, rfl, ho, qa⟩; have ba : Below w21.heap.size w21 wa := Below.trans (by go_grown) qa; obtain ⟨c9, d9, e9, f9⟩ := (HA.out.below ba).cells; obtain ⟨c10, d10, e10, f10⟩ := (HX.out.below ba).cells; have HO := Lib.hid (ho.mail (by omega)); have BA := Lib.hid ba; clear ho qa ba)
    | (have hx := HO; go_at_call 17; refine (eqBox_any b _ _ _ ((HX.out.below (Below.trans BA.out (by go_grown))).box) ⟨_, rfl, HO.out.below (by go_grown)⟩).mono ?_; rintro e wb ⟨rfl, qb⟩; have bb : Below w21.heap.size w21 wb := Below.trans BA.out ((Below.trans (by go_grown) qb).mono BA.out.size); obtain ⟨c9, d9, e9, f9⟩ := (HA.out.below bb).cells; obtain ⟨c10, d10, e10, f10⟩ := (HX.out.below bb).cells; have BB := Lib.hid bb; clear hx HO qb bb))
  have q := BB.out
  replace A := A.below q
  replace I := I.below q
  replace W0 := W0.below q
  replace X := X.below q
  replace P := P.below q
  replace Y := Y.below q
  replace bel := bel.trans (q.mono bel.size)
  have s12 := q.size
  clear c9 d9 e9 f9 n9 c10 d10 e10 f10 n10
  clear HX HA BA BB q
  go_wp2_with fail
  refine (toIntS_any us _ _ I.at (by omega)).mono ?_
  rintro e w22 ⟨gq, rfl, hoi, q⟩
  replace A := A.below q
  replace I := I.below q
  replace W0 := W0.below q
  replace X := X.below q
  replace P := P.below q
  replace Y := Y.below q
  replace bel := bel.trans (q.mono bel.size)
  have s13 := q.size
  clear q
  go_wp2_with fail
  refine (eqIntS_any us _ _ _ P.at (hoi.at (by omega))).mono ?_
  rintro e w23 ⟨rfl, q⟩
  replace A := A.below q
  replace I := I.below q
  replace W0 := W0.below q
  replace X := X.below q
  replace P := P.below q
  replace Y := Y.below q
  replace bel := bel.trans (q.mono bel.size)
  have s14 := q.size
  clear q
  clear hoi
  obtain ⟨z1, hz1⟩ : ∃ z : Nat, z = 1 + b.mail.length * 3 := ⟨_, rfl⟩
  have Z1 := Lib.hid hz1
  clear hz1
  obtain ⟨c11, d11, e11, f11⟩ := X.cells
  have n11 := X.lt
  go_wp2_with fail
  refine (markBox_z b _ _ _ _ _ z1 _ X (by omega) (by omega) _ 1 rfl (by omega) (by omega) Z1.out).mono ?_
  rintro e w24 ⟨rfl, ho, hg⟩
  replace A := A.mark X.cell.own (by decide) (by omega) hg
  replace I := I.mark X.cell.own (by omega) hg
  replace W0 := W0.mark X.cell.own X.up (by omega) hg
  replace P := P.mark X.cell.own hg
  replace Y := Y.mark X.cell.own X.up (by omega) hg
  replace bel := bel_mark bel X.cell.own (by omega) hg
  have s15 := hg.size
  clear X
  clear c11 d11 e11 f11 n11
  clear ho hg
  have z1a : 1 ≤ z1 := by have := Z1.out; omega
  have z1b : z1 ≤ 10000000 := by have := Z1.out; omega
  obtain ⟨z4, hz4⟩ : ∃ z : Nat, z = z1 + us.length := ⟨_, rfl⟩
  have Z4 := Lib.hid hz4
  clear hz4
  go_wp2_with fail
  refine (markIntS_z us _ _ _ _ z4 _ P (by omega) _ z1 rfl (by omega) (by omega) Z4.out).mono ?_
  rintro e w25 ⟨rfl, ho, hg⟩
  replace A := A.mark P.own (by decide) (by omega) hg
  replace I := I.mark P.own (by omega) hg
  replace W0 := W0.markI P.own hg
  replace Y := Y.markI P.own hg
  replace bel := bel_mark bel P.own (by omega) hg
  have s16 := hg.size
  clear P
  clear ho hg
  obtain ⟨c12, d12, e12, f12⟩ := Y.cells
  have n12 := Y.lt
  obtain ⟨c13, d13, e13, f13⟩ := W0.cells
  have n13 := W0.lt
  go_wp2_with fail
  refine (eqBox_any T.1 _ _ _ Y.box W0.box).mono ?_
  rintro e w26 ⟨rfl, q⟩
  replace A := A.below q
  replace I := I.below q
  replace W0 := W0.below q
  replace Y := Y.below q
  replace bel := bel.trans (q.mono bel.size)
  have s17 := q.size
  clear c12 d12 e12 f12 n12 c13 d13 e13 f13 n13
  clear q
  obtain ⟨z2, hz2⟩ : ∃ z : Nat, z = 1 + T.1.mail.length * 3 := ⟨_, rfl⟩
  have Z2 := Lib.hid hz2
  clear hz2
  obtain ⟨c14, d14, e14, f14⟩ := Y.cells
  have n14 := Y.lt
  go_wp2_with fail
  refine (markBox_z T.1 _ _ _ _ _ z2 _ Y (by omega) (by omega) _ 1 rfl (by omega) (by omega) Z2.out).mono ?_
  rintro e w27 ⟨rfl, ho, hg⟩
  replace A := A.mark Y.cell.own (by decide) (by omega) hg
  replace I := I.mark Y.cell.own (by omega) hg
  replace W0 := W0.mark Y.cell.own Y.up (by omega) hg
  replace bel := bel_mark bel Y.cell.own (by omega) hg
  have s18 := hg.size
  replace Y := Y.self (markM_length _ _) ho hg
  clear c14 d14 e14 f14 n14
  clear ho hg
  obtain ⟨bm, hbm⟩ : ∃ B' : B, B' = ⟨T.1.next, markM 1 T.1.mail⟩ := ⟨_, rfl⟩
  rw [← hbm] at Y
  have BM : Hid (bm.mail = markM 1 T.1.mail) := by rw [hbm]; rfl
  clear hbm
  obtain ⟨c15, d15, e15, f15⟩ := Y.cells
  have n15 := Y.lt
  go_wp2_with fail
  refine (heldBox_z T.1 bm _ _ _ _ _ z2 _ Y (by omega) _ 1 rfl BM.out (by omega) (by omega) Z2.out).mono ?_
  rintro e w28 ⟨rfl, q⟩
  replace A := A.below q
  replace I := I.below q
  replace W0 := W0.below q
  replace Y := Y.below q
  replace bel := bel.trans (q.mono bel.size)
  have s19 := q.size
  clear c15 d15 e15 f15 n15
  clear q
  obtain ⟨c16, d16, e16, f16⟩ := A.cells
  have n16 := A.lt
  go_wp2_with fail
  refine (toBox_any b _ _ A.box (by omega)).mono ?_
  rintro e w29 ⟨gt, rfl, ho, q⟩
  replace A := A.below q
  replace I := I.below q
  replace W0 := W0.below q
  replace Y := Y.below q
  replace bel := bel.trans (q.mono bel.size)
  have s20 := q.size
  clear c16 d16 e16 f16 n16
  clear q
  go_wp2_with fail
  refine (toIntS_any us _ _ I.at (by omega)).mono ?_
  rintro e w30 ⟨gj, rfl, hoi, q⟩
  replace A := A.below q
  replace I := I.below q
  replace W0 := W0.below q
  replace Y := Y.below q
  replace ho := ho.below q
  replace bel := bel.trans (q.mono bel.size)
  have s21 := q.size
  clear q
  go_wp2_with fail
  refine (implBoxFlags_any b us how o _ _ _ ⟨_, rfl, ho.mail (by omega)⟩ (hoi.at (by omega))).mono ?_
  rintro e w31 ⟨s, rfl, ho, q⟩
  replace A := A.below q
  replace I := I.below q
  replace W0 := W0.below q
  replace Y := Y.below q
  replace bel := bel.trans (q.mono bel.size)
  have s22 := q.size
  clear q
  clear hoi
  rw [HT.out] at ho ⊢
  obtain ⟨ah, ch, rfl⟩ := ho.slice
  obtain ⟨c17, d17, e17, f17⟩ := W0.cells
  have n17 := W0.lt
  obtain ⟨w32, hw18, V, r18, z18⟩ := new_bc (b := T.1) ho (by omega)
  replace A := A.below r18
  replace I := I.below r18
  replace W0 := W0.below r18
  replace Y := Y.below r18
  replace bel := bel.trans (r18.mono bel.size)
  have s23 := r18.size
  have lz18 := Nat.le_of_eq z18.symm
  have HW := Lib.hid hw18
  clear hw18 r18 z18 ho
  go_wp2_with fail
  rw [← HW.out]
  refine (eqBox_any T.1 _ _ _ V.box W0.box).mono ?_
  rintro e w33 ⟨rfl, q⟩
  replace A := A.below q
  replace I := I.below q
  replace W0 := W0.below q
  replace Y := Y.below q
  replace V := V.below q
  replace bel := bel.trans (q.mono bel.size)
  have s24 := q.size
  clear c17 d17 e17 f17 n17 HW
  clear q
  obtain ⟨c19, d19, e19, f19⟩ := Y.cells
  have n19 := Y.lt
  go_wp2_with fail
  refine (heldBox_z T.1 bm _ _ _ _ _ z2 _ Y (by omega) _ 1 rfl BM.out (by omega) (by omega) Z2.out).mono ?_
  rintro e w34 ⟨rfl, q⟩
  replace A := A.below q
  replace I := I.below q
  replace W0 := W0.below q
  replace Y := Y.below q
  replace V := V.below q
  replace bel := bel.trans (q.mono bel.size)
  have s25 := q.size
  clear c19 d19 e19 f19 n19
  clear q
  go_wp2_with fail
  go_ret
  exact ⟨rfl, bel⟩
end Go.Proofs.Ytjcfjhimfbglhaa

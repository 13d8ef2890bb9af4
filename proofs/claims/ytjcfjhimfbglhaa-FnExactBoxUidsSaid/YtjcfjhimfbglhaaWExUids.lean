/- WALK: the program's BoxUids answers as the reference's, in memory of its own. -/
import Derived.Test.YtjcfjhimfbglhaaExCell
import Derived.Test.YtjcfjhimfbglhaaUids
import Derived.Deep.DeepCutAuto
import Derived.Deep.DrawnRows
import Derived.IntWalk
namespace Go.Proofs.Ytjcfjhimfbglhaa
open Go.RowKit
set_option linter.unusedVariables false
attribute [local go_sem ↓] Go.wp_at_zero Go.wp_at_succ

set_option maxRecDepth 100000 in
set_option maxHeartbeats 4000000 in
theorem fnExactBoxUids.walk (x : Int) (a : Option Addr) (len cap : Nat) (l : List M) (hl : len ≤ cap) (hm : cap ≤ maxLen) (a1 : Option Addr) (len1 cap1 : Nat) (us : List Int) (hl1 : len1 ≤ cap1) (hm1 : cap1 ≤ maxLen) (w : World) (hc : MailIn w a len cap l) (hc1 : IntsIn w a1 len1 cap1 us) :
    Calls Try.prog 8 #[.agg #[.int .i64 x, .slice a len cap], .slice a1 len1 cap1] w fun e w' => e = .returned (.bool true) ∧ Below w.heap.size w w' := by
  obtain ⟨b, rfl, rfl⟩ : ∃ b : B, b.next = x ∧ b.mail = l := ⟨⟨x, l⟩, rfl, rfl⟩
  obtain ⟨hbl, hbn, htx, hbm⟩ := hc
  subst hbl
  have hul := hc1.1
  subst hul
  by_cases hus : 1048576 < us.length
  · unfold maxLen at hm1
    go_enter Try.func8, Try.ntmps8
    go_wp2_with fail
    go_ret
    exact ⟨rfl, by go_grown⟩
  by_cases hbig : 1048576 < b.mail.length
  · go_enter Try.func8, Try.ntmps8
    go_wp2_with fail
    refine (szBox_big _ _ _ _ _ _ (by omega) (by omega) hl hm hbig).mono ?_
    rintro e wn ⟨rfl, q⟩
    have bel : Below w.heap.size w wn := Below.trans (by go_grown) (q.mono (by simp))
    clear q
    go_wp2_with fail
    go_ret
    exact ⟨rfl, bel⟩
  obtain ⟨w1, hw1⟩ : ∃ w1, w1 = w.alloc (.cells #[.int .i64 b.next, .slice a b.mail.length cap] 24) := ⟨_, rfl⟩
  have bel : Below w.heap.size w w1 := by rw [hw1]; exact (Below.refl _ _).alloc (Nat.le_refl _) _
  have s0 : w.heap.size + 1 ≤ w1.heap.size := by rw [hw1]; simp
  have A : AC w1 w.heap.size w.heap.size b a cap := by
    refine ⟨by rw [hw1]; exact heap_alloc_new w _, ⟨hl, by omega, hbn⟩, ?_, by omega⟩
    rcases hbm with h0 | ⟨g, off, ha, hg, hc⟩
    · exact .inl h0
    · exact .inr ⟨g, off, ha, hg, fun i m hi => ⟨(bel.cell (p := ⟨g, _, none⟩) hg).trans (hc i m hi).1, (bel.cell (p := ⟨g, _, none⟩) hg).trans (hc i m hi).2.1, (bel.cell (p := ⟨g, _, none⟩) hg).trans (hc i m hi).2.2⟩⟩
  have HW := Lib.hid hw1
  clear hw1 hbm htx
  have I := AI.new hc1 hl1 (by omega) bel
  clear hc1
  go_enter Try.func8, Try.ntmps8
  obtain ⟨c1, d1, e1, f1⟩ := A.cells
  have n1 := A.lt
  go_wp2_with fail
  rw [← HW.out]
  refine (szBox_any b _ _ _ A.box (by omega) (by omega) (by omega)).mono ?_
  rintro e w11 ⟨y, rfl, q⟩
  replace A := A.below q
  replace I := I.below q
  replace bel := bel.trans (q.mono bel.size)
  have s1 := q.size
  clear c1 d1 e1 f1 n1 HW
  clear q
  by_cases hneg : y < 0
  · go_wp2_with fail
    go_ret
    exact ⟨rfl, bel⟩
  obtain ⟨c2, d2, e2, f2⟩ := A.cells
  have n2 := A.lt
  go_wp2_with fail
  refine (toBox_any b _ _ A.box (by omega)).mono ?_
  rintro e w12 ⟨gt, rfl, ho, q⟩
  replace A := A.below q
  replace I := I.below q
  replace bel := bel.trans (q.mono bel.size)
  have s2 := q.size
  clear c2 d2 e2 f2 n2
  clear q
  go_wp2_with fail
  refine (toIntS_any us _ _ I.at (by omega)).mono ?_
  rintro e w13 ⟨gi, rfl, hoi, q⟩
  replace A := A.below q
  replace I := I.below q
  replace ho := ho.below q
  replace bel := bel.trans (q.mono bel.size)
  have s3 := q.size
  clear q
  go_wp2_with fail
  refine (specBoxUids_any b us _ _ _ ⟨_, rfl, ho.mail (by omega)⟩ (hoi.at (by omega))).mono ?_
  rintro e w14 ⟨g0, cp0, rfl, hor, q⟩
  replace A := A.below q
  replace I := I.below q
  replace bel := bel.trans (q.mono bel.size)
  have s4 := q.size
  clear q
  clear ho hoi
  obtain ⟨T, hT⟩ : ∃ T, uidsOf b us = T := ⟨_, rfl⟩
  have hTl : T.length ≤ 1048576 := by rw [← hT]; have := uidsOf_le b us; omega
  have HT := Lib.hid hT
  clear hT
  rw [HT.out] at hor ⊢
  have N0 := new_nc (l := T) hor (by omega)
  clear hor
  obtain ⟨c3, d3, e3, f3⟩ := A.cells
  have n3 := A.lt
  go_wp2_with fail
  refine (toBox_any b _ _ A.box (by omega)).mono ?_
  rintro e w15 ⟨gx, rfl, ho, q⟩
  replace A := A.below q
  replace I := I.below q
  replace N0 := N0.below q
  replace bel := bel.trans (q.mono bel.size)
  have s5 := q.size
  clear c3 d3 e3 f3 n3
  clear q
  obtain ⟨w16, hw4, X, r4, z4⟩ := new_bc (b := b) ho (by omega)
  replace A := A.below r4
  replace I := I.below r4
  replace N0 := N0.below r4
  replace bel := bel.trans (r4.mono bel.size)
  have s6 := r4.size
  have lz4 := Nat.le_of_eq z4.symm
  have HW := Lib.hid hw4
  clear hw4 r4 z4 ho
  go_wp2_with fail
  rw [← HW.out]
  refine (toIntS_any us _ _ I.at (by omega)).mono ?_
  rintro e w17 ⟨gp, rfl, hoi, q⟩
  replace A := A.below q
  replace I := I.below q
  replace N0 := N0.below q
  replace X := X.below q
  replace bel := bel.trans (q.mono bel.size)
  have s7 := q.size
  clear HW
  clear q
  have P := new_nc (l := us) hoi (by omega)
  clear hoi
  obtain ⟨c5, d5, e5, f5⟩ := X.cells
  have n5 := X.lt
  go_wp2_with fail
  refine (implBoxUids_any b us _ _ _ X.box P.at).mono ?_
  rintro e w18 ⟨g1, cp1, rfl, hor, q⟩
  replace A := A.below q
  replace I := I.below q
  replace N0 := N0.below q
  replace X := X.below q
  replace P := P.below q
  replace bel := bel.trans (q.mono bel.size)
  have s8 := q.size
  clear c5 d5 e5 f5 n5
  clear q
  rw [HT.out] at hor ⊢
  have N1 := new_nc (l := T) hor (by omega)
  clear hor
  go_wp2_with fail
  refine (eqIntS_any T _ _ _ N1.at N0.at).mono ?_
  rintro e w19 ⟨rfl, q⟩
  replace A := A.below q
  replace I := I.below q
  replace N0 := N0.below q
  replace X := X.below q
  replace P := P.below q
  replace N1 := N1.below q
  replace bel := bel.trans (q.mono bel.size)
  have s9 := q.size
  clear q
  obtain ⟨c6, d6, e6, f6⟩ := A.cells
  have n6 := A.lt
  obtain ⟨c7, d7, e7, f7⟩ := X.cells
  have n7 := X.lt
  have HX := Lib.hid X; have HA := Lib.hid A
  go_wp2_with fail
  go_region_held3 (fun W => (W.cell? ⟨w.heap.size, 0, none⟩ = some (.int .i64 b.next) ∧ W.cell? ⟨w.heap.size, 1, none⟩ = some (.slice a b.mail.length cap)) ∧ W.cell? ⟨w15.heap.size, 0, none⟩ = some (.int .i64 b.next) ∧ W.cell? ⟨w15.heap.size, 1, none⟩ = some (.slice (some ⟨gx, 0, none⟩) b.mail.length b.mail.length)) (first | exact ⟨⟨c6, d6⟩, c7, d7⟩ | (go_keep; done))
    (first
    | ((fail_if_success (have hx := HO)); go_at_call 15; refine (toBox_any b _ _ ((HA.out.below (by go_grown)).box) (by omega)).mono ?_; rintro e wa ⟨gt, rfl, ho, qa⟩; have ba : Below w19.heap.size w19 wa := Below.trans (by go_grown) qa; obtain ⟨c6, d6, e6, f6⟩ := (HA.out.below ba).cells; obtain ⟨c7, d7, e7, f7⟩ := (HX.out.below ba).cells; have HO := Lib.hid (ho.mail (by omega)); have BA := Lib.hid ba; clear ho qa ba)
    | (have hx := HO; go_at_call 17; refine (eqBox_any b _ _ _ ((HX.out.below (Below.trans BA.out (by go_grown))).box) ⟨_, rfl, HO.out.below (by go_grown)⟩).mono ?_; rintro e wb ⟨rfl, qb⟩; have bb : Below w19.heap.size w19 wb := Below.trans BA.out ((Below.trans (by go_grown) qb).mono BA.out.size); obtain ⟨c6, d6, e6, f6⟩ := (HA.out.below bb).cells; obtain ⟨c7, d7, e7, f7⟩ := (HX.out.below bb).cells; have BB := Lib.hid bb; clear hx HO qb bb))
  have q := BB.out
  replace A := A.below q
  replace I := I.below q
  replace N0 := N0.below q
  replace X := X.below q
  replace P := P.below q
  replace N1 := N1.below q
  replace bel := bel.trans (q.mono bel.size)
  have s10 := q.size
  clear c6 d6 e6 f6 n6 c7 d7 e7 f7 n7
  clear HX HA BA BB q
  go_wp2_with fail
  refine (toIntS_any us _ _ I.at (by omega)).mono ?_
  rintro e w20 ⟨gq, rfl, hoi, q⟩
  replace A := A.below q
  replace I := I.below q
  replace N0 := N0.below q
  replace X := X.below q
  replace P := P.below q
  replace N1 := N1.below q
  replace bel := bel.trans (q.mono bel.size)
  have s11 := q.size
  clear q
  go_wp2_with fail
  refine (eqIntS_any us _ _ _ P.at (hoi.at (by omega))).mono ?_
  rintro e w21 ⟨rfl, q⟩
  replace A := A.below q
  replace I := I.below q
  replace N0 := N0.below q
  replace X := X.below q
  replace P := P.below q
  replace N1 := N1.below q
  replace bel := bel.trans (q.mono bel.size)
  have s12 := q.size
  clear q
  clear hoi
  obtain ⟨z1, hz1⟩ : ∃ z : Nat, z = 1 + b.mail.length * 3 := ⟨_, rfl⟩
  have Z1 := Lib.hid hz1
  clear hz1
  obtain ⟨c8, d8, e8, f8⟩ := X.cells
  have n8 := X.lt
  go_wp2_with fail
  refine (markBox_z b _ _ _ _ _ z1 _ X (by omega) (by omega) _ 1 rfl (by omega) (by omega) Z1.out).mono ?_
  rintro e w22 ⟨rfl, ho, hg⟩
  replace A := A.mark X.cell.own (by decide) (by omega) hg
  replace I := I.mark X.cell.own (by omega) hg
  replace N0 := N0.mark X.cell.own hg
  replace P := P.mark X.cell.own hg
  replace N1 := N1.mark X.cell.own hg
  replace bel := bel_mark bel X.cell.own (by omega) hg
  have s13 := hg.size
  clear X
  clear c8 d8 e8 f8 n8
  clear ho hg
  have z1a : 1 ≤ z1 := by have := Z1.out; omega
  have z1b : z1 ≤ 10000000 := by have := Z1.out; omega
  obtain ⟨z4, hz4⟩ : ∃ z : Nat, z = z1 + us.length := ⟨_, rfl⟩
  have Z4 := Lib.hid hz4
  clear hz4
  go_wp2_with fail
  refine (markIntS_z us _ _ _ _ z4 _ P (by omega) _ z1 rfl (by omega) (by omega) Z4.out).mono ?_
  rintro e w23 ⟨rfl, ho, hg⟩
  replace A := A.mark P.own (by decide) (by omega) hg
  replace I := I.mark P.own (by omega) hg
  replace N0 := N0.markI P.own P.up (by omega) hg
  replace N1 := N1.markI P.own P.up (by omega) hg
  replace bel := bel_mark bel P.own (by omega) hg
  have s14 := hg.size
  clear P
  clear ho hg
  go_wp2_with fail
  refine (eqIntS_any T _ _ _ N1.at N0.at).mono ?_
  rintro e w24 ⟨rfl, q⟩
  replace A := A.below q
  replace I := I.below q
  replace N0 := N0.below q
  replace N1 := N1.below q
  replace bel := bel.trans (q.mono bel.size)
  have s15 := q.size
  clear q
  obtain ⟨z3, hz3⟩ : ∃ z : Nat, z = 1 + T.length := ⟨_, rfl⟩
  have Z3 := Lib.hid hz3
  clear hz3
  go_wp2_with fail
  refine (markIntS_z T _ _ _ _ z3 _ N1 (by omega) _ 1 rfl (by omega) (by omega) Z3.out).mono ?_
  rintro e w25 ⟨rfl, ho, hg⟩
  replace A := A.mark N1.own (by decide) (by omega) hg
  replace I := I.mark N1.own (by omega) hg
  replace N0 := N0.markI N1.own N1.up (by omega) hg
  replace bel := bel_mark bel N1.own (by omega) hg
  have s16 := hg.size
  replace N1 := N1.self (markI_length _ _) ho
  clear ho hg
  obtain ⟨nm, hnm⟩ : ∃ L : List Int, L = markI 1 T := ⟨_, rfl⟩
  rw [← hnm] at N1
  have NM := Lib.hid hnm
  have hnl : nm.length = T.length := by rw [hnm, markI_length]
  have NL := Lib.hid hnl
  clear hnm hnl
  go_wp2_with fail
  refine (heldIntS_y T nm _ _ _ _ z3 _ N1 NL.out (by omega) _ 1 rfl NM.out (by omega) (by omega) Z3.out).mono ?_
  rintro e w26 ⟨rfl, q⟩
  replace A := A.below q
  replace I := I.below q
  replace N0 := N0.below q
  replace N1 := N1.below q
  replace bel := bel.trans (q.mono bel.size)
  have s17 := q.size
  clear q
  obtain ⟨c9, d9, e9, f9⟩ := A.cells
  have n9 := A.lt
  go_wp2_with fail
  refine (toBox_any b _ _ A.box (by omega)).mono ?_
  rintro e w27 ⟨gt, rfl, ho, q⟩
  replace A := A.below q
  replace I := I.below q
  replace N0 := N0.below q
  replace N1 := N1.below q
  replace bel := bel.trans (q.mono bel.size)
  have s18 := q.size
  clear c9 d9 e9 f9 n9
  clear q
  go_wp2_with fail
  refine (toIntS_any us _ _ I.at (by omega)).mono ?_
  rintro e w28 ⟨gj, rfl, hoi, q⟩
  replace A := A.below q
  replace I := I.below q
  replace N0 := N0.below q
  replace N1 := N1.below q
  replace ho := ho.below q
  replace bel := bel.trans (q.mono bel.size)
  have s19 := q.size
  clear q
  go_wp2_with fail
  refine (implBoxUids_any b us _ _ _ ⟨_, rfl, ho.mail (by omega)⟩ (hoi.at (by omega))).mono ?_
  rintro e w29 ⟨g2, cp2, rfl, hor, q⟩
  replace A := A.below q
  replace I := I.below q
  replace N0 := N0.below q
  replace N1 := N1.below q
  replace bel := bel.trans (q.mono bel.size)
  have s20 := q.size
  clear q
  clear ho hoi
  rw [HT.out] at hor ⊢
  have N2 := new_nc (l := T) hor (by omega)
  clear hor
  go_wp2_with fail
  refine (eqIntS_any T _ _ _ N2.at N0.at).mono ?_
  rintro e w30 ⟨rfl, q⟩
  replace A := A.below q
  replace I := I.below q
  replace N0 := N0.below q
  replace N1 := N1.below q
  replace N2 := N2.below q
  replace bel := bel.trans (q.mono bel.size)
  have s21 := q.size
  clear q
  go_wp2_with fail
  refine (heldIntS_y T nm _ _ _ _ z3 _ N1 NL.out (by omega) _ 1 rfl NM.out (by omega) (by omega) Z3.out).mono ?_
  rintro e w31 ⟨rfl, q⟩
  replace A := A.below q
  replace I := I.below q
  replace N0 := N0.below q
  replace N1 := N1.below q
  replace N2 := N2.below q
  replace bel := bel.trans (q.mono bel.size)
  have s22 := q.size
  clear q
  go_wp2_with fail
  go_ret
  exact ⟨rfl, bel⟩
end Go.Proofs.Ytjcfjhimfbglhaa

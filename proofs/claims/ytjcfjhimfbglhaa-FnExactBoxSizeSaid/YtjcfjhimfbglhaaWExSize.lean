/- WALK: the program's BoxSize answers as the reference's. -/
import Derived.Test.YtjcfjhimfbglhaaExCell
import Derived.Test.YtjcfjhimfbglhaaSize
import Derived.Deep.DeepCutAuto
import Derived.Deep.DrawnRows
import Derived.IntWalk
namespace Go.Proofs.Ytjcfjhimfbglhaa
open Go.RowKit
set_option linter.unusedVariables false
attribute [local go_sem ↓] Go.wp_at_zero Go.wp_at_succ

set_option maxRecDepth 100000 in
set_option maxHeartbeats 4000000 in
theorem fnExactBoxSize.walk (x : Int) (a : Option Addr) (len cap : Nat) (l : List M) (hl : len ≤ cap) (hm : cap ≤ maxLen) (w : World) (hc : MailIn w a len cap l) :
    Calls Try.prog 4 #[.agg #[.int .i64 x, .slice a len cap]] w fun e w' => e = .returned (.bool true) ∧ Below w.heap.size w w' := by
  obtain ⟨b, rfl, rfl⟩ : ∃ b : B, b.next = x ∧ b.mail = l := ⟨⟨x, l⟩, rfl, rfl⟩
  obtain ⟨hbl, hbn, htx, hbm⟩ := hc
  subst hbl
  by_cases hbig : 1048576 < b.mail.length
  · go_enter Try.func4, Try.ntmps4
    go_wp2_with fail
    refine (szBox_big _ _ _ _ _ _ (by omega) (by omega) hl hm hbig).mono ?_
    rintro e wn ⟨rfl, q⟩
    have bel : Below w.heap.size w wn := Below.trans (by go_grown) (q.mono (by simp))
    clear q
    go_wp2_with fail
    go_ret
    exact ⟨rfl, bel⟩
  obtain ⟨w1, hw1⟩ : ∃ w1, w1 = w.alloc (.cells #[.int .i64 b.next, .slice a b.mail.length cap] 24) := ⟨_, rfl⟩
  have bel : Below w.heap.size w w1 := by rw [hw1]; exact (Below.refl _ _).alloc (Nat.le_refl _) _
  have s0 : w.heap.size + 1 ≤ w1.heap.size := by rw [hw1]; simp
  have A : AC w1 w.heap.size w.heap.size b a cap := by
    refine ⟨by rw [hw1]; exact heap_alloc_new w _, ⟨hl, by omega, hbn⟩, ?_, by omega⟩
    rcases hbm with h0 | ⟨g, off, ha, hg, hc⟩
    · exact .inl h0
    · exact .inr ⟨g, off, ha, hg, fun i m hi => ⟨(bel.cell (p := ⟨g, _, none⟩) hg).trans (hc i m hi).1, (bel.cell (p := ⟨g, _, none⟩) hg).trans (hc i m hi).2.1, (bel.cell (p := ⟨g, _, none⟩) hg).trans (hc i m hi).2.2⟩⟩
  have HW := Lib.hid hw1
  clear hw1 hbm htx
  go_enter Try.func4, Try.ntmps4
  obtain ⟨c1, d1, e1, f1⟩ := A.cells
  have n1 := A.lt
  go_wp2_with fail
  rw [← HW.out]
  refine (szBox_any b _ _ _ A.box (by omega) (by omega) (by omega)).mono ?_
  rintro e w11 ⟨y, rfl, q⟩
  replace A := A.below q
  replace bel := bel.trans (q.mono bel.size)
  have s1 := q.size
  clear c1 d1 e1 f1 n1 HW
  clear q
  by_cases hneg : y < 0
  · go_wp2_with fail
    go_ret
    exact ⟨rfl, bel⟩
  obtain ⟨c2, d2, e2, f2⟩ := A.cells
  have n2 := A.lt
  go_wp2_with fail
  refine (toBox_any b _ _ A.box (by omega)).mono ?_
  rintro e w12 ⟨gt, rfl, ho, q⟩
  replace A := A.below q
  replace bel := bel.trans (q.mono bel.size)
  have s2 := q.size
  clear c2 d2 e2 f2 n2
  clear q
  go_wp2_with fail
  refine (specBoxSize_any b _ _ ⟨_, rfl, ho.mail (by omega)⟩).mono ?_
  rintro e w13 ⟨rfl, q⟩
  replace A := A.below q
  replace bel := bel.trans (q.mono bel.size)
  have s3 := q.size
  clear q
  clear ho
  obtain ⟨c3, d3, e3, f3⟩ := A.cells
  have n3 := A.lt
  go_wp2_with fail
  refine (toBox_any b _ _ A.box (by omega)).mono ?_
  rintro e w14 ⟨gx, rfl, ho, q⟩
  replace A := A.below q
  replace bel := bel.trans (q.mono bel.size)
  have s4 := q.size
  clear c3 d3 e3 f3 n3
  clear q
  obtain ⟨w15, hw4, X, r4, z4⟩ := new_bc (b := b) ho (by omega)
  replace A := A.below r4
  replace bel := bel.trans (r4.mono bel.size)
  have s5 := r4.size
  have lz4 := Nat.le_of_eq z4.symm
  have HW := Lib.hid hw4
  clear hw4 r4 z4 ho
  obtain ⟨c5, d5, e5, f5⟩ := X.cells
  have n5 := X.lt
  go_wp2_with fail
  rw [← HW.out]
  refine (implBoxSize_any b _ _ X.box).mono ?_
  rintro e w16 ⟨rfl, q⟩
  replace A := A.below q
  replace X := X.below q
  replace bel := bel.trans (q.mono bel.size)
  have s6 := q.size
  clear c5 d5 e5 f5 n5 HW
  clear q
  obtain ⟨c6, d6, e6, f6⟩ := A.cells
  have n6 := A.lt
  obtain ⟨c7, d7, e7, f7⟩ := X.cells
  have n7 := X.lt
  have HX := Lib.hid X; have HA := Lib.hid A
  go_wp2_with fail
  go_region_held3 (fun W => (W.cell? ⟨w.heap.size, 0, none⟩ = some (.int .i64 b.next) ∧ W.cell? ⟨w.heap.size, 1, none⟩ = some (.slice a b.mail.length cap)) ∧ W.cell? ⟨w14.heap.size, 0, none⟩ = some (.int .i64 b.next) ∧ W.cell? ⟨w14.heap.size, 1, none⟩ = some (.slice (some ⟨gx, 0, none⟩) b.mail.length b.mail.length)) (first | exact ⟨⟨c6, d6⟩, c7, d7⟩ | (go_keep; done))
    (first
    | ((fail_if_success (have hx := HO)); go_at_call 15; refine (toBox_any b _ _ ((HA.out.below (by go_grown)).box) (by omega)).mono ?_; rintro e wa ⟨gt, rfl, ho, qa⟩; have ba : Below w16.heap.size w16 wa := Below.trans (by go_grown) qa; obtain ⟨c6, d6, e6, f6⟩ := (HA.out.below ba).cells; obtain ⟨c7, d7, e7, f7⟩ := (HX.out.below ba).cells; have HO := Lib.hid (ho.mail (by omega)); have BA := Lib.hid ba; clear ho qa ba)
    | (have hx := HO; go_at_call 17; refine (eqBox_any b _ _ _ ((HX.out.below (Below.trans BA.out (by go_grown))).box) ⟨_, rfl, HO.out.below (by go_grown)⟩).mono ?_; rintro e wb ⟨rfl, qb⟩; have bb : Below w16.heap.size w16 wb := Below.trans BA.out ((Below.trans (by go_grown) qb).mono BA.out.size); obtain ⟨c6, d6, e6, f6⟩ := (HA.out.below bb).cells; obtain ⟨c7, d7, e7, f7⟩ := (HX.out.below bb).cells; have BB := Lib.hid bb; clear hx HO qb bb))
  have q := BB.out
  replace A := A.below q
  replace X := X.below q
  replace bel := bel.trans (q.mono bel.size)
  have s7 := q.size
  clear c6 d6 e6 f6 n6 c7 d7 e7 f7 n7
  clear HX HA BA BB q
  go_wp2_with fail
  go_ret
  exact ⟨rfl, bel⟩
end Go.Proofs.Ytjcfjhimfbglhaa

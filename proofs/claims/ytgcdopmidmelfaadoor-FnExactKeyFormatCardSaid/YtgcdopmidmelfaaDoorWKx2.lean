/- WALKS of the exact laws on keys. -/
import Derived.Test.YtgcdopmidmelfaaDoorKEq
import Derived.Test.YtgcdopmidmelfaaDoorKSz
import Derived.Test.YtgcdopmidmelfaaDoorKSk
namespace Go.Proofs.YtgcdopmidmelfaaDoor
open Go.RowKit
set_option linter.unusedVariables false

set_option maxRecDepth 100000 in
set_option maxHeartbeats 4000000 in
theorem fnExactKeyFormat.walk (k : K) (v : Value) (w : World) (hN : Names w) (hc : KeyIn w k v) :
    Calls Tryd.prog 4 #[v] w fun e w' => e = .returned (.bool true) ∧ Below w.heap.size w w' := by
  have HKI := Lib.hid hc
  rw [KeyIn] at hc
  obtain ⟨sv, a, n, cap, rfl, _, ⟨b2, m2, e2, rfl, _⟩, _, _, _, _⟩ := hc
  have HN := Lib.hid hN
  clear hN
  obtain ⟨w1, hw1⟩ : ∃ w1, w1 = w.alloc (.cells #[.int .i64 k.kind, .int .i64 k.flag, .string k.text, .slice b2 m2 e2, .slice a n cap] 25) := ⟨_, rfl⟩
  have q1 : Below w.heap.size w w1 := by rw [hw1]; go_grown
  have r0 : RowAt w1 w.heap.size 25 #[.int .i64 k.kind, .int .i64 k.flag, .string k.text, .slice b2 m2 e2, .slice a n cap] := by unfold RowAt; rw [hw1]; exact heap_alloc_new w _
  have n1 := r0.lt
  have HW := Lib.hid hw1; have R0 := Lib.hid r0
  clear hw1 r0
  generalize hg0 : k.kind = x0 at *
  generalize hg1 : k.flag = x1 at *
  generalize hg2 : k.text = x2 at *
  go_enter Tryd.func4, Tryd.ntmps4
  go_wp2_with fail
  rw [← HW.out]
  refine (szKey_any k _ w1 _ (KeyIn.below q1 _ _ HKI.out) (by omega) (by omega)).mono ?_
  rintro e w2 ⟨rfl, q⟩
  have bel := q1.trans (q.mono q1.size)
  replace R0 := Lib.hid (R0.out.below q)
  have HKI2 := Lib.hid (KeyIn.below bel _ _ HKI.out)
  clear HW q q1 n1 HKI
  by_cases hwt : k.wt ≤ 1048576
  · rw [res_ok (by omega)]
    have HF := Lib.hid (k.fit_wt hwt)
    have HND := Lib.hid k.nodes_wt
    have hz : ¬ (1048576 : Int) - (k.wt : Int) < 0 := by omega
    generalize hgw : (k.wt : Int) = W at hz
    have HGW := Lib.hid hgw
    clear hgw
    obtain ⟨⟨c0, c1, c2, c3, c4⟩, _⟩ := fiveC R0.out
    have n2 := R0.out.lt
    go_wp2_with fail
    refine (toKey_any k hwt _ w2 HKI2.out).mono ?_
    rintro e w3 ⟨v1, rfl, hv1, q⟩
    have i1 : Ins (fun j => w2.heap.size ≤ j ∧ j < w3.heap.size) w3 := fun j hj => hj.2
    replace bel := bel.trans (q.mono bel.size)
    replace R0 := Lib.hid (R0.out.below q)
    replace HKI2 := Lib.hid (KeyIn.below q _ _ HKI2.out)
    have HV1 := Lib.hid hv1; have HI1 := Lib.hid i1
    clear q c0 c1 c2 c3 c4 hv1 i1
    obtain ⟨⟨c0, c1, c2, c3, c4⟩, _⟩ := fiveC R0.out
    have n3 := R0.out.lt
    go_wp2_with fail
    refine (specKeyFormat_any k _ _ w3 HV1.out HI1.out HF.out (by have := HND.out; omega)).mono ?_
    rintro e w4 ⟨t1, rfl, ht1, q⟩
    have HT1 := Lib.hid ht1
    clear ht1
    replace bel := bel.trans (q.mono bel.size)
    replace R0 := Lib.hid (R0.out.below q)
    replace HKI2 := Lib.hid (KeyIn.below q _ _ HKI2.out)
    clear q c0 c1 c2 c3 c4 HV1 HI1 n2 n3
    obtain ⟨⟨c0, c1, c2, c3, c4⟩, _⟩ := fiveC R0.out
    have n4 := R0.out.lt
    go_wp2_with fail
    refine (toKey_any k hwt _ w4 HKI2.out).mono ?_
    rintro e w5 ⟨v2, rfl, hv2, q⟩
    have s5 := q.size
    have i2 : Ins (fun j => w4.heap.size ≤ j ∧ j < w5.heap.size) w5 := fun j hj => hj.2
    replace bel := bel.trans (q.mono bel.size)
    replace R0 := Lib.hid (R0.out.below q)
    replace HKI2 := Lib.hid (KeyIn.below q _ _ HKI2.out)
    have hv2' := hv2
    rw [KeyAt] at hv2'
    obtain ⟨sv2, a5, n5, cap5, rfl, ⟨b6, m6, e6, rfl, _⟩, _⟩ := hv2'
    rw [hg0, hg1, hg2] at hv2
    rw [hg0, hg1, hg2]
    obtain ⟨w6, hw6⟩ : ∃ w6, w6 = w5.alloc (.cells #[.int .i64 x0, .int .i64 x1, .string x2, .slice b6 m6 e6, .slice a5 n5 cap5] 31) := ⟨_, rfl⟩
    have q6 : Below w5.heap.size w5 w6 := by rw [hw6]; go_grown
    have rx : RowAt w6 w5.heap.size 31 #[.int .i64 x0, .int .i64 x1, .string x2, .slice b6 m6 e6, .slice a5 n5 cap5] := by unfold RowAt; rw [hw6]; exact heap_alloc_new w5 _
    have HV2 := Lib.hid (hv2.below i2 q6); have HI2 := Lib.hid (i2.below q6)
    have HW6 := Lib.hid hw6; have RX := Lib.hid rx
    replace bel := bel.trans (q6.mono bel.size)
    replace R0 := Lib.hid (R0.out.below q6)
    replace HKI2 := Lib.hid (KeyIn.below q6 _ _ HKI2.out)
    have n6 := RX.out.lt
    have n60 : w.heap.size < w5.heap.size := by omega
    clear q c0 c1 c2 c3 c4 hv2 i2 hw6 rx n4 q6
    go_wp2_with fail
    rw [← HW6.out]
    refine (implKeyFormat_any k _ _ w6 HV2.out HI2.out HF.out (HN.out.below bel)).mono ?_
    rintro e w7 ⟨t2, rfl, ht2, q⟩
    obtain rfl := strEq HT1.out ht2
    clear ht2 HT1
    replace bel := bel.trans (q.mono bel.size)
    replace R0 := Lib.hid (R0.out.below q)
    replace RX := Lib.hid (RX.out.below q)
    replace HKI2 := Lib.hid (KeyIn.below q _ _ HKI2.out)
    replace HV2 := Lib.hid (HV2.out.below HI2.out q)
    replace HI2 := Lib.hid (HI2.out.below q)
    clear q HW6 n6 s5
    obtain ⟨⟨c0, c1, c2, c3, c4⟩, _⟩ := fiveC R0.out
    obtain ⟨⟨d0, d1, d2, d3, d4⟩, _⟩ := fiveC RX.out
    have n7 := R0.out.lt
    have n8 := RX.out.lt
    go_wp2_with fail
    go_region_held3 (fun W => (W.cell? ⟨w.heap.size, 0, none⟩ = some (.int .i64 x0) ∧ W.cell? ⟨w.heap.size, 1, none⟩ = some (.int .i64 x1) ∧ W.cell? ⟨w.heap.size, 2, none⟩ = some (.string x2) ∧ W.cell? ⟨w.heap.size, 3, none⟩ = some (.slice b2 m2 e2) ∧ W.cell? ⟨w.heap.size, 4, none⟩ = some (.slice a n cap)) ∧ W.cell? ⟨w5.heap.size, 0, none⟩ = some (.int .i64 x0) ∧ W.cell? ⟨w5.heap.size, 1, none⟩ = some (.int .i64 x1) ∧ W.cell? ⟨w5.heap.size, 2, none⟩ = some (.string x2) ∧ W.cell? ⟨w5.heap.size, 3, none⟩ = some (.slice b6 m6 e6) ∧ W.cell? ⟨w5.heap.size, 4, none⟩ = some (.slice a5 n5 cap5)) (first | exact ⟨⟨c0, c1, c2, c3, c4⟩, d0, d1, d2, d3, d4⟩ | (go_keep; done))
      (first
      | ((fail_if_success (have hx := HO)); go_at_call 7; refine (toKey_any k hwt _ _ (KeyIn.below (by go_grown) _ _ HKI2.out)).mono ?_; rintro e wa ⟨v3, rfl, ho, qa⟩; have ba : Below w7.heap.size w7 wa := Below.trans (by go_grown) (qa.mono (by simp)); clear c0 c1 c2 c3 c4 d0 d1 d2 d3 d4; obtain ⟨⟨c0, c1, c2, c3, c4⟩, _⟩ := fiveC (R0.out.below ba); obtain ⟨⟨d0, d1, d2, d3, d4⟩, _⟩ := fiveC (RX.out.below ba); have HO := Lib.hid ho; have BA := Lib.hid ba; clear ho qa ba)
      | (have hx := HO; go_at_call 9; refine (eqKey_any k _ _ _ _ _ (HV2.out.below HI2.out (Below.trans BA.out (by go_grown))) (HI2.out.below (Below.trans BA.out (by go_grown))) (HO.out.below (fun j hj => hj.2) (by go_grown)) (Ins.below (fun j hj => hj.2) (by go_grown))).mono ?_; rintro e wb ⟨rfl, qb⟩; have bb : Below w7.heap.size w7 wb := Below.trans BA.out ((Below.trans (by go_grown) qb).mono BA.out.size); clear c0 c1 c2 c3 c4 d0 d1 d2 d3 d4; obtain ⟨⟨c0, c1, c2, c3, c4⟩, _⟩ := fiveC (R0.out.below bb); obtain ⟨⟨d0, d1, d2, d3, d4⟩, _⟩ := fiveC (RX.out.below bb); have BB := Lib.hid bb; clear hx HO qb bb))
    have q := BB.out
    replace bel := bel.trans (q.mono bel.size)
    clear c0 c1 c2 c3 c4 d0 d1 d2 d3 d4 R0 RX HKI2 HV2 HI2 BA BB q
    go_wp2_with fail
    go_ret
    exact ⟨rfl, bel⟩
  · rw [res_no (by omega)]
    clear R0 HKI2
    go_wp2_with fail
    go_ret
    exact ⟨rfl, bel⟩
end Go.Proofs.YtgcdopmidmelfaaDoor

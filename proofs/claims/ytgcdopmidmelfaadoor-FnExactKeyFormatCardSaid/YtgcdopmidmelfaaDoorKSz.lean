/- WALKS: the weight of a key that comes in. -/
import Derived.Test.YtgcdopmidmelfaaDoorKIn
import Derived.WalkKit
import Derived.IntWalk
import Derived.Deep.Cut
namespace Go.Proofs.YtgcdopmidmelfaaDoor
open Go.RowKit
set_option linter.unusedVariables false

theorem sum_take_succ {l : List K} {n : Nat} (h : n < l.length) : ((l.take (n + 1)).map K.wt).sum = ((l.take n).map K.wt).sum + l[n].wt := by
  rw [List.take_succ_eq_append_getElem h, List.map_append, List.sum_append]; simp
theorem sum_take_le (l : List K) : ∀ n, ((l.take n).map K.wt).sum ≤ (l.map K.wt).sum := by
  intro n
  conv => rhs; rw [← List.take_append_drop n l]
  rw [List.map_append, List.sum_append]; omega
def Weighs (left : Int) (x : Nat) (w : World) (e : Ending) (w' : World) : Prop := e = .returned (.int .i64 (res left x)) ∧ Below w.heap.size w w'
theorem szSpanS_any (l : List (Int × Int)) (v : Value) (left : Int) (w : World) (h : SetIn w v l) (h0 : 0 ≤ left) (h1 : left ≤ 1048576) :
    Calls Tryd.prog 12 #[v, .int .i64 left] w (Weighs left l.length w) := by
  obtain ⟨a, L, cap, rfl, hL, hc, hm, _⟩ := h
  have hm1 := hm.1
  unfold maxLen at hm1
  subst hL
  clear hm
  by_cases hneg : (l.length : Int) ≤ left
  · have hr := res_ok hneg
    have HR := Lib.hid hr
    clear hr
    have hz : ¬ left - (l.length : Int) < 0 := by omega
    go_enter Tryd.func12, Tryd.ntmps12
    go_wp2_with fail
    go_ret
    exact ⟨by rw [HR.out]; rfl, by go_grown⟩
  · have hr := res_no (left := left) (x := l.length) (by omega)
    have HR := Lib.hid hr
    clear hr
    have hz : left - (l.length : Int) < 0 := by omega
    go_enter Tryd.func12, Tryd.ntmps12
    go_wp2_with fail
    go_ret
    exact ⟨by rw [HR.out]; rfl, by go_grown⟩
set_option maxHeartbeats 1000000 in
theorem szKeyS_any (k : K) (ih : ∀ c ∈ k.keys, ∀ v w left, KeyIn w c v → 0 ≤ left → left ≤ 1048576 → Calls Tryd.prog 5 #[v, .int .i64 left] w (Weighs left c.wt w))
    (a : Option Addr) (L cap : Nat) (left : Int) (w : World) (hL : k.keys.length = L) (hc : L ≤ cap) (hm1 : cap ≤ maxLen) (h0 : 0 ≤ left) (h1 : left ≤ 1048576)
    (hkeys : L = 0 ∨ ∃ b off, a = some ⟨b, off, none⟩ ∧ b < w.heap.size ∧ ∀ i (h : i < k.keys.length), ∃ c0 c1 c2 c3 c4, w.cell? ⟨b, off + i * 5, none⟩ = some c0 ∧ w.cell? ⟨b, off + i * 5 + 1, none⟩ = some c1 ∧ w.cell? ⟨b, off + i * 5 + 2, none⟩ = some c2 ∧ w.cell? ⟨b, off + i * 5 + 3, none⟩ = some c3 ∧ w.cell? ⟨b, off + i * 5 + 4, none⟩ = some c4 ∧
      KeyIn w k.keys[i] (.agg #[c0, c1, c2, c3, c4])) :
    Calls Tryd.prog 13 #[.slice a L cap, .int .i64 left] w (Weighs left (L + (k.keys.map K.wt).sum) w) := by
  unfold maxLen at hm1
  have HL := Lib.hid hL
  have HIH := Lib.hid ih
  clear hL ih
  by_cases hneg : left - (L : Int) < 0
  · have hr := res_no (left := left) (x := L + (k.keys.map K.wt).sum) (by omega)
    have HR := Lib.hid hr
    clear hr hkeys
    go_enter Tryd.func13, Tryd.ntmps13
    go_wp2_with fail
    go_ret
    exact ⟨by rw [HR.out]; rfl, by go_grown⟩
  · go_enter Tryd.func13, Tryd.ntmps13
    go_wp2_with fail
    go_loopw [1, 5] (fun lf i wr => ∃ (n : Nat) (x : Int), n ≤ L ∧ i = .int .i64 n ∧ lf = .int .i64 x ∧ 0 ≤ x ∧ Hid (x = left - ((L + ((k.keys.take n).map K.wt).sum : Nat) : Int)) ∧ x ≤ 1048576 ∧ Below w.heap.size w wr) (fun _ i _ => L - (intOf i).toNat)
    case atStart => exact ⟨0, _, by omega, rfl, rfl, by omega, Lib.hid (by simp), by omega, Below.refl _ _⟩
    case round =>
      obtain ⟨n, x, hn, rfl, rfl, hx0, HX, hx1, hq⟩ := hrel
      clear hneg
      by_cases hlt : n < L
      · rcases hkeys with h0 | ⟨g, off, rfl, hg, hcells⟩
        · omega
        have hlt' : n < k.keys.length := by rw [HL.out]; exact hlt
        obtain ⟨v0, v1, v2, v3, v4, c0, c1, c2, c3, c4, hk⟩ := hcells n hlt'
        have HS := Lib.hid (sum_take_succ hlt')
        have HT := Lib.hid (sum_take_le k.keys (n + 1))
        have HC := Lib.hid (HIH.out _ (List.getElem_mem hlt') _ wr x (KeyIn.below hq _ _ hk) hx0 hx1)
        generalize k.keys[n] = c at *
        replace c0 := (hq.cell (p := ⟨g, _, none⟩) hg).trans c0
        replace c1 := (hq.cell (p := ⟨g, _, none⟩) hg).trans c1
        replace c2 := (hq.cell (p := ⟨g, _, none⟩) hg).trans c2
        replace c3 := (hq.cell (p := ⟨g, _, none⟩) hg).trans c3
        replace c4 := (hq.cell (p := ⟨g, _, none⟩) hg).trans c4
        clear hcells hk
        have hnI : (n : Int) < (L : Int) := by omega
        go_wp2_with fail
        refine HC.out.mono ?_
        rintro e w2 ⟨rfl, q2⟩
        have q3 := hq.trans (q2.mono hq.size)
        clear c0 c1 c2 c3 c4 q2 HC
        by_cases hle : (c.wt : Int) ≤ x
        · rw [res_ok hle]
          have hz : ¬ x - (c.wt : Int) < 0 := by omega
          go_wp2_with fail
          go_roundw
          case rel => exact ⟨n + 1, x - c.wt, by omega, by go_num, rfl, by omega, Lib.hid (by rw [HS.out]; have := HX.out; omega), by omega, q3⟩
          case measure => simp [intOf]; omega
        · rw [res_no (by omega)]
          have hr := res_no (left := left) (x := L + (k.keys.map K.wt).sum) (by have := HX.out; have := HS.out; have := HT.out; omega)
          have HR := Lib.hid hr
          clear hr
          go_wp2_with fail
          go_ret
          exact ⟨by rw [HR.out]; rfl, q3⟩
      · have hnn : n = k.keys.length := by rw [HL.out]; omega
        have hx := HX.out
        rw [hnn, List.take_length] at hx
        have hr := res_ok (left := left) (x := L + (k.keys.map K.wt).sum) (by omega)
        rw [← hx] at hr
        have HR := Lib.hid hr
        clear hkeys hr hx hnn HX
        go_wp2_with fail
        go_ret
        exact ⟨by rw [HR.out]; rfl, hq⟩
set_option maxHeartbeats 1000000 in
theorem szKey_any (k : K) : ∀ (v : Value) (w : World) (left : Int), KeyIn w k v → 0 ≤ left → left ≤ 1048576 → Calls Tryd.prog 5 #[v, .int .i64 left] w (Weighs left k.wt w) := by
  induction k using K.ind with
  | h k ih =>
    intro v w left h h0 h1
    rw [KeyIn] at h
    obtain ⟨sv, a, n, cap, rfl, ht, hs, hl, hc, hm, hkeys⟩ := h
    unfold maxLen at ht
    have hw := k.wt_eq
    have HSV := Lib.hid hs
    obtain ⟨a2, n2, cap2, rfl, hn2, hc2, _, _⟩ := hs
    generalize hq0 : k.wt = W at *
    obtain ⟨w1, hw1⟩ : ∃ w1, w1 = w.alloc (.cells #[.int .i64 k.kind, .int .i64 k.flag, .string k.text, .slice a2 n2 cap2, .slice a n cap] 25) := ⟨_, rfl⟩
    have hb : w1.heap[w.heap.size]? = some (.cells #[.int .i64 k.kind, .int .i64 k.flag, .string k.text, .slice a2 n2 cap2, .slice a n cap] 25) := by rw [hw1]; exact heap_alloc_new w _
    have q1 : Below w.heap.size w w1 := by rw [hw1]; go_grown
    have s1 : w.heap.size + 1 = w1.heap.size := by rw [hw1]; simp
    have HW := Lib.hid hw1; have HWT := Lib.hid hw; have HM := Lib.hid hm; have HK := Lib.hid hkeys; have HIH := Lib.hid ih; have HLN := Lib.hid hl; have HN2 := Lib.hid hn2
    clear hw1 hw hm hkeys ih hl hn2
    have c2 := cell_of_block (j := 2) hb rfl
    have c3 := cell_of_block (j := 3) hb rfl
    have c4 := cell_of_block (j := 4) hb rfl
    go_enter Tryd.func5, Tryd.ntmps5
    by_cases hz1 : left - (k.text.size : Int) < 0
    · have hr := res_no (left := left) (x := W) (by have := HWT.out; omega)
      have HR := Lib.hid hr
      clear hr c2 c3 c4 hb
      go_wp2_with fail
      go_ret
      exact ⟨by rw [HR.out]; rfl, by go_grown⟩
    · have hl0 : 0 ≤ left - (k.text.size : Int) := by omega
      go_wp2_with fail
      rw [← HW.out]
      refine (szSpanS_any k.set _ _ w1 (HSV.out.below q1) hl0 (by omega)).mono ?_
      rintro e w2 ⟨rfl, q2⟩
      have q3 := q1.trans (q2.mono q1.size)
      replace c2 := (q2.cell (p := ⟨w.heap.size, 2, none⟩) (by show w.heap.size < _; omega)).trans c2
      replace c3 := (q2.cell (p := ⟨w.heap.size, 3, none⟩) (by show w.heap.size < _; omega)).trans c3
      replace c4 := (q2.cell (p := ⟨w.heap.size, 4, none⟩) (by show w.heap.size < _; omega)).trans c4
      by_cases hz2 : (k.set.length : Int) ≤ left - (k.text.size : Int)
      · rw [res_ok hz2]
        have hl1 : ¬ left - (k.text.size : Int) - (k.set.length : Int) < 0 := by omega
        have hkS := szKeyS_any k HIH.out a n cap (left - (k.text.size : Int) - (k.set.length : Int)) w2 HLN.out hc HM.out.1 (by omega) (by omega) (by
          rcases HK.out with h0 | ⟨b, off, ha, hlt, h⟩
          · exact .inl h0
          · refine .inr ⟨b, off, ha, Nat.lt_of_lt_of_le hlt q3.size, fun i hi => ?_⟩
            obtain ⟨c0, c1, c2, c3, c4, e0, e1, e2, e3, e4, hh⟩ := h i hi
            have q : ∀ o c, w.cell? ⟨b, o, none⟩ = some c → w2.cell? ⟨b, o, none⟩ = some c := fun o c e => (q3.cell (p := ⟨b, o, none⟩) hlt).trans e
            exact ⟨c0, c1, c2, c3, c4, q _ _ e0, q _ _ e1, q _ _ e2, q _ _ e3, q _ _ e4, KeyIn.below q3 _ _ hh⟩)
        have HKS := Lib.hid hkS
        clear hkS hb q1 q2 HW
        go_wp2_with fail
        refine HKS.out.mono ?_
        rintro e w3 ⟨rfl, q4⟩
        have q5 := q3.trans (q4.mono q3.size)
        clear c2 c3 c4 q3 q4 HKS
        by_cases hz3 : ((n + (k.keys.map K.wt).sum : Nat) : Int) ≤ left - (k.text.size : Int) - (k.set.length : Int)
        · rw [res_ok hz3]
          have hr := res_ok (left := left) (x := W) (by have := HWT.out; have := HLN.out; omega)
          have hr2 : left - (W : Int) = left - (k.text.size : Int) - (k.set.length : Int) - ((n + (k.keys.map K.wt).sum : Nat) : Int) := by have := HWT.out; have := HLN.out; omega
          rw [hr2] at hr
          have HR := Lib.hid hr
          generalize (n + (k.keys.map K.wt).sum : Nat) = Z at *
          have hl2 : ¬ left - (k.text.size : Int) - (k.set.length : Int) - (Z : Int) < 0 := by omega
          clear hr hr2
          go_wp2_with fail
          go_ret
          exact ⟨by rw [HR.out]; rfl, q5⟩
        · rw [res_no (by omega)]
          have hr := res_no (left := left) (x := W) (by have := HWT.out; have := HLN.out; omega)
          have HR := Lib.hid hr
          clear hr hz3
          go_wp2_with fail
          go_ret
          exact ⟨by rw [HR.out]; rfl, q5⟩
      · rw [res_no (by omega)]
        have hr := res_no (left := left) (x := W) (by have := HWT.out; omega)
        have HR := Lib.hid hr
        clear hr hb c2 c3 c4
        go_wp2_with fail
        go_ret
        exact ⟨by rw [HR.out]; rfl, q3⟩
end Go.Proofs.YtgcdopmidmelfaaDoor

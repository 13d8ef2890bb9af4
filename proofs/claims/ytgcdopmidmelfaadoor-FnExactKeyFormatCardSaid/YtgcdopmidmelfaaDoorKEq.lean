/- WALKS: equal keys are found equal. -/
import Derived.Test.YtgcdopmidmelfaaDoorKTo2
import Derived.Deep.RegionHeld3
import Derived.Deep.QuietTactic
import Derived.BigQuiet
namespace Go.Proofs.YtgcdopmidmelfaaDoor
open Go.RowKit
set_option linter.unusedVariables false

def SaysYes (w : World) (e : Ending) (w' : World) : Prop := e = .returned (.bool true) ∧ Below w.heap.size w w'
theorem eqSpan_any (s : Int × Int) (w : World) : Calls Tryd.prog 26 #[.agg #[.int .i64 s.1, .int .i64 s.2], .agg #[.int .i64 s.1, .int .i64 s.2]] w (SaysYes w) := by
  obtain ⟨u, f⟩ := s
  dsimp only
  go_enter Tryd.func26, Tryd.ntmps26
  go_wp2_with fail
  go_ret
  exact ⟨rfl, by go_grown⟩
set_option maxHeartbeats 400000 in
theorem eqSpanS_any (l : List (Int × Int)) (v1 v2 : Value) (S1 S2 : Nat → Prop) (w : World) (h1 : SetAt w S1 v1 l) (i1 : Ins S1 w) (h2 : SetAt w S2 v2 l) (i2 : Ins S2 w) :
    Calls Tryd.prog 19 #[v1, v2] w (SaysYes w) := by
  obtain ⟨a1, L, cap1, rfl, hL, hc1, ⟨hm1, _⟩, hmail1⟩ := h1
  obtain ⟨a2, L2, cap2, rfl, hL2, hc2, ⟨hm2, _⟩, hmail2⟩ := h2
  obtain rfl : L2 = L := by omega
  have HL := Lib.hid hL
  clear hL hL2
  go_enter Tryd.func19, Tryd.ntmps19
  go_wp2_with fail
  go_loopw [5] (fun i wr => ∃ (n : Nat), n ≤ L2 ∧ i = .int .i64 n ∧ Below w.heap.size w wr) (fun i _ => L2 - (intOf i).toNat)
  case atStart => exact ⟨0, by omega, rfl, Below.refl _ _⟩
  case round =>
    obtain ⟨n, hnL, rfl, hq⟩ := hrel
    by_cases hlt : n < L2
    · rcases hmail1 with h0 | ⟨g1, off1, rfl, hg1, hcells1⟩
      · omega
      rcases hmail2 with h0 | ⟨g2, off2, rfl, hg2, hcells2⟩
      · omega
      replace hg1 := i1 _ hg1
      replace hg2 := i2 _ hg2
      have hlt' : n < l.length := by rw [HL.out]; exact hlt
      have hm := List.getElem?_eq_getElem hlt'
      generalize l[n] = m at hm
      obtain ⟨c0, c1⟩ := hcells1 n _ hm
      obtain ⟨d0, d1⟩ := hcells2 n _ hm
      have k1 : ∀ o v, w.cell? ⟨g1, o, none⟩ = some v → wr.cell? ⟨g1, o, none⟩ = some v := fun o v h => (hq.cell (p := ⟨g1, o, none⟩) hg1).trans h
      have k2 : ∀ o v, w.cell? ⟨g2, o, none⟩ = some v → wr.cell? ⟨g2, o, none⟩ = some v := fun o v h => (hq.cell (p := ⟨g2, o, none⟩) hg2).trans h
      replace c0 := k1 _ _ c0
      replace c1 := k1 _ _ c1
      replace d0 := k2 _ _ d0
      replace d1 := k2 _ _ d1
      have n0 : (0 : Int) ≤ (n : Int) := Int.natCast_nonneg _
      have hnI : (n : Int) < (L2 : Int) := by omega
      clear k1 k2 hcells1 hcells2 hm i1 i2
      go_wp2_with fail
      go_region_held3 (fun W => (W.cell? ⟨g1, off1 + n * 2, none⟩ = some (.int .i64 m.1) ∧ W.cell? ⟨g1, off1 + n * 2 + 1, none⟩ = some (.int .i64 m.2)) ∧ W.cell? ⟨g2, off2 + n * 2, none⟩ = some (.int .i64 m.1) ∧ W.cell? ⟨g2, off2 + n * 2 + 1, none⟩ = some (.int .i64 m.2)) (first | exact ⟨⟨c0, c1⟩, d0, d1⟩ | (go_keep; done))
        ((go_at_call 26; refine (eqSpan_any m _).mono ?_; rintro e w2 ⟨rfl, q2⟩; have q3 : Below w.heap.size w w2 := hq.trans (Below.trans (by go_grown) (q2.mono (by first | exact hq.size | (show _ ≤ wr.heap.size; exact hq.size)))); have c0 := (q2.cell (p := ⟨g1, _, none⟩) (World.block_lt_of_cell? _ _ c0)).trans c0; have c1 := (q2.cell (p := ⟨g1, _, none⟩) (World.block_lt_of_cell? _ _ c1)).trans c1; have d0 := (q2.cell (p := ⟨g2, _, none⟩) (World.block_lt_of_cell? _ _ d0)).trans d0; have d1 := (q2.cell (p := ⟨g2, _, none⟩) (World.block_lt_of_cell? _ _ d1)).trans d1; clear q2))
      go_wp2_with fail
      go_roundw
      case rel => exact ⟨n + 1, by omega, by go_num, q3⟩
      case measure => simp [intOf]; omega
    · have : n = L2 := by omega
      subst this
      clear hmail1 hmail2
      go_wp2_with fail
      go_ret
      exact ⟨rfl, hq⟩
/-- The keys of a key, where they can be read. -/
def KeysAt (w : World) (S : Nat → Prop) (k : K) (a : Option Addr) (n : Nat) : Prop := n = 0 ∨ ∃ b off, a = some ⟨b, off, none⟩ ∧ S b ∧
    ∀ i (h : i < k.keys.length), ∃ c0 c1 c2 c3 c4, w.cell? ⟨b, off + i * 5, none⟩ = some c0 ∧ w.cell? ⟨b, off + i * 5 + 1, none⟩ = some c1 ∧ w.cell? ⟨b, off + i * 5 + 2, none⟩ = some c2 ∧ w.cell? ⟨b, off + i * 5 + 3, none⟩ = some c3 ∧ w.cell? ⟨b, off + i * 5 + 4, none⟩ = some c4 ∧
      KeyAt w S k.keys[i] (.agg #[c0, c1, c2, c3, c4])
theorem KeysAt.below {w w' : World} {S : Nat → Prop} {k : K} {a : Option Addr} {n : Nat} (h : KeysAt w S k a n) (hN : Ins S w) (hb : Below w.heap.size w w') : KeysAt w' S k a n := by
  rcases h with h0 | ⟨b, off, ha, hs, h⟩
  · exact .inl h0
  · refine .inr ⟨b, off, ha, hs, fun i hi => ?_⟩
    obtain ⟨c0, c1, c2, c3, c4, e0, e1, e2, e3, e4, hh⟩ := h i hi
    have q : ∀ o c, w.cell? ⟨b, o, none⟩ = some c → w'.cell? ⟨b, o, none⟩ = some c := fun o c e => (hb.cell (p := ⟨b, o, none⟩) (hN _ hs)).trans e
    exact ⟨c0, c1, c2, c3, c4, q _ _ e0, q _ _ e1, q _ _ e2, q _ _ e3, q _ _ e4, hh.below hN hb⟩
set_option maxHeartbeats 1000000 in
theorem eqKeyS_any (k : K) (ih : ∀ c ∈ k.keys, ∀ v1 v2 S1 S2 w, KeyAt w S1 c v1 → Ins S1 w → KeyAt w S2 c v2 → Ins S2 w → Calls Tryd.prog 9 #[v1, v2] w (SaysYes w))
    (a1 a2 : Option Addr) (L cap1 cap2 : Nat) (S1 S2 : Nat → Prop) (w : World) (hL : k.keys.length = L) (hl : L ≤ 4398046511104) (hc1 : L ≤ cap1) (hc2 : L ≤ cap2) (h1 : KeysAt w S1 k a1 L) (i1 : Ins S1 w) (h2 : KeysAt w S2 k a2 L) (i2 : Ins S2 w) :
    Calls Tryd.prog 20 #[.slice a1 L cap1, .slice a2 L cap2] w (SaysYes w) := by
  have HL := Lib.hid hL; have HIH := Lib.hid ih; have I1 := Lib.hid i1; have I2 := Lib.hid i2; have H1 := Lib.hid h1; have H2 := Lib.hid h2
  clear hL ih i1 i2 h1 h2
  go_enter Tryd.func20, Tryd.ntmps20
  go_wp2_with fail
  go_loopw [5] (fun i wr => ∃ (n : Nat), n ≤ L ∧ i = .int .i64 n ∧ Below w.heap.size w wr) (fun i _ => L - (intOf i).toNat)
  case atStart => exact ⟨0, by omega, rfl, Below.refl _ _⟩
  case round =>
    obtain ⟨n, hnL, rfl, hq⟩ := hrel
    by_cases hlt : n < L
    · rcases H1.out with h0 | ⟨g1, off1, rfl, hg1, hcells1⟩
      · omega
      rcases H2.out with h0 | ⟨g2, off2, rfl, hg2, hcells2⟩
      · omega
      replace hg1 := I1.out _ hg1
      replace hg2 := I2.out _ hg2
      have hlt' : n < k.keys.length := by rw [HL.out]; exact hlt
      obtain ⟨u0, u1, u2, u3, u4, c0, c1, c2, c3, c4, hk1⟩ := hcells1 n hlt'
      obtain ⟨v0, v1, v2, v3, v4, d0, d1, d2, d3, d4, hk2⟩ := hcells2 n hlt'
      have HC := Lib.hid (fun (W : World) (q : Below w.heap.size w W) => HIH.out _ (List.getElem_mem hlt') _ _ S1 S2 W (hk1.below I1.out q) (I1.out.below q) (hk2.below I2.out q) (I2.out.below q))
      have k1 : ∀ o v, w.cell? ⟨g1, o, none⟩ = some v → wr.cell? ⟨g1, o, none⟩ = some v := fun o v h => (hq.cell (p := ⟨g1, o, none⟩) hg1).trans h
      have k2 : ∀ o v, w.cell? ⟨g2, o, none⟩ = some v → wr.cell? ⟨g2, o, none⟩ = some v := fun o v h => (hq.cell (p := ⟨g2, o, none⟩) hg2).trans h
      replace c0 := k1 _ _ c0
      replace c1 := k1 _ _ c1
      replace c2 := k1 _ _ c2
      replace c3 := k1 _ _ c3
      replace c4 := k1 _ _ c4
      replace d0 := k2 _ _ d0
      replace d1 := k2 _ _ d1
      replace d2 := k2 _ _ d2
      replace d3 := k2 _ _ d3
      replace d4 := k2 _ _ d4
      have n0 : (0 : Int) ≤ (n : Int) := Int.natCast_nonneg _
      have hnI : (n : Int) < (L : Int) := by omega
      clear k1 k2 hcells1 hcells2 hk1 hk2
      go_wp2_with fail
      go_region_held3 (fun W => (W.cell? ⟨g1, off1 + n * 5, none⟩ = some u0 ∧ W.cell? ⟨g1, off1 + n * 5 + 1, none⟩ = some u1 ∧ W.cell? ⟨g1, off1 + n * 5 + 2, none⟩ = some u2 ∧ W.cell? ⟨g1, off1 + n * 5 + 3, none⟩ = some u3 ∧ W.cell? ⟨g1, off1 + n * 5 + 4, none⟩ = some u4) ∧ W.cell? ⟨g2, off2 + n * 5, none⟩ = some v0 ∧ W.cell? ⟨g2, off2 + n * 5 + 1, none⟩ = some v1 ∧ W.cell? ⟨g2, off2 + n * 5 + 2, none⟩ = some v2 ∧ W.cell? ⟨g2, off2 + n * 5 + 3, none⟩ = some v3 ∧ W.cell? ⟨g2, off2 + n * 5 + 4, none⟩ = some v4) (first | exact ⟨⟨c0, c1, c2, c3, c4⟩, d0, d1, d2, d3, d4⟩ | (go_keep; done))
        ((go_at_call 9; refine (HC.out _ (hq.trans (by go_grown))).mono ?_; rintro e w2 ⟨rfl, q2⟩; have q3 : Below w.heap.size w w2 := hq.trans (Below.trans (by go_grown) (q2.mono (by first | exact hq.size | (show _ ≤ wr.heap.size; exact hq.size)))); have c0 := (q2.cell (p := ⟨g1, _, none⟩) (World.block_lt_of_cell? _ _ c0)).trans c0; have c1 := (q2.cell (p := ⟨g1, _, none⟩) (World.block_lt_of_cell? _ _ c1)).trans c1; have c2 := (q2.cell (p := ⟨g1, _, none⟩) (World.block_lt_of_cell? _ _ c2)).trans c2; have c3 := (q2.cell (p := ⟨g1, _, none⟩) (World.block_lt_of_cell? _ _ c3)).trans c3; have c4 := (q2.cell (p := ⟨g1, _, none⟩) (World.block_lt_of_cell? _ _ c4)).trans c4; have d0 := (q2.cell (p := ⟨g2, _, none⟩) (World.block_lt_of_cell? _ _ d0)).trans d0; have d1 := (q2.cell (p := ⟨g2, _, none⟩) (World.block_lt_of_cell? _ _ d1)).trans d1; have d2 := (q2.cell (p := ⟨g2, _, none⟩) (World.block_lt_of_cell? _ _ d2)).trans d2; have d3 := (q2.cell (p := ⟨g2, _, none⟩) (World.block_lt_of_cell? _ _ d3)).trans d3; have d4 := (q2.cell (p := ⟨g2, _, none⟩) (World.block_lt_of_cell? _ _ d4)).trans d4; clear q2))
      go_wp2_with fail
      go_roundw
      case rel => exact ⟨n + 1, by omega, by go_num, q3⟩
      case measure => simp [intOf]; omega
    · have : n = L := by omega
      subst this
      clear H1 H2
      go_wp2_with fail
      go_ret
      exact ⟨rfl, hq⟩
set_option maxHeartbeats 1000000 in
theorem eqKey_any (k : K) : ∀ (v1 v2 : Value) (S1 S2 : Nat → Prop) (w : World), KeyAt w S1 k v1 → Ins S1 w → KeyAt w S2 k v2 → Ins S2 w → Calls Tryd.prog 9 #[v1, v2] w (SaysYes w) := by
  induction k using K.ind with
  | h k ih =>
    intro v1 v2 S1 S2 w h1 i1 h2 i2
    rw [KeyAt] at h1 h2
    obtain ⟨s1, a1, n1, cap1, rfl, hs1, hl1, hc1, ⟨hm1, _⟩, hk1⟩ := h1
    obtain ⟨s2, a2, n2, cap2, rfl, hs2, hl2, hc2, ⟨hm2, _⟩, hk2⟩ := h2
    obtain rfl : n2 = n1 := by omega
    have HS1 := Lib.hid hs1; have HS2 := Lib.hid hs2
    obtain ⟨b1, m1, e1, rfl, _⟩ := hs1
    obtain ⟨b2, m2, e2, rfl, _⟩ := hs2
    have HK1 := Lib.hid (show KeysAt w S1 k a1 n2 from hk1); have HK2 := Lib.hid (show KeysAt w S2 k a2 n2 from hk2)
    have I1 := Lib.hid i1; have I2 := Lib.hid i2; have HIH := Lib.hid ih; have HLN := Lib.hid hl1
    clear hk1 hk2 i1 i2 ih hl1 hl2
    obtain ⟨w1, hw1⟩ : ∃ w1, w1 = (w.alloc (.cells #[.int .i64 k.kind, .int .i64 k.flag, .string k.text, .slice b1 m1 e1, .slice a1 n2 cap1] 31)).alloc (.cells #[.int .i64 k.kind, .int .i64 k.flag, .string k.text, .slice b2 m2 e2, .slice a2 n2 cap2] 31) := ⟨_, rfl⟩
    have q1 : Below w.heap.size w w1 := by rw [hw1]; go_grown
    have r0 : RowAt w1 w.heap.size 31 #[.int .i64 k.kind, .int .i64 k.flag, .string k.text, .slice b1 m1 e1, .slice a1 n2 cap1] := by
      unfold RowAt; rw [hw1, Below.heap_alloc _ _ _ (by simp)]; exact heap_alloc_new w _
    have r1 : RowAt w1 (w.heap.size + 1) 31 #[.int .i64 k.kind, .int .i64 k.flag, .string k.text, .slice b2 m2 e2, .slice a2 n2 cap2] := by
      unfold RowAt; rw [hw1]; have := heap_alloc_new (w.alloc (.cells #[.int .i64 k.kind, .int .i64 k.flag, .string k.text, .slice b1 m1 e1, .slice a1 n2 cap1] 31)) (.cells #[.int .i64 k.kind, .int .i64 k.flag, .string k.text, .slice b2 m2 e2, .slice a2 n2 cap2] 31); simpa using this
    have HW := Lib.hid hw1; have R0 := Lib.hid r0; have R1 := Lib.hid r1
    clear hw1 r0 r1
    go_enter Tryd.func9, Tryd.ntmps9
    go_wp2_with fail
    rw [← HW.out]
    refine (eqSpanS_any k.set _ _ S1 S2 w1 (HS1.out.below I1.out q1) (I1.out.below q1) (HS2.out.below I2.out q1) (I2.out.below q1)).mono ?_
    rintro e w2 ⟨rfl, q2⟩
    have q3 := q1.trans (q2.mono q1.size)
    obtain ⟨⟨c0, c1, c2, c3, c4⟩, _⟩ := fiveC (R0.out.below q2)
    obtain ⟨⟨d0, d1, d2, d3, d4⟩, _⟩ := fiveC (R1.out.below q2)
    have HC := Lib.hid (eqKeyS_any k HIH.out a1 a2 n2 cap1 cap2 S1 S2 w2 HLN.out hm1 hc1 hc2 (HK1.out.below I1.out q3) (I1.out.below q3) (HK2.out.below I2.out q3) (I2.out.below q3))
    clear HW q1 q2 c0 c1 c2 c3 d0 d1 d2 d3
    go_wp2_with fail
    refine HC.out.mono ?_
    rintro e w3 ⟨rfl, q4⟩
    have q5 := q3.trans (q4.mono q3.size)
    clear c4 d4 q4 HC
    go_wp2_with fail
    go_ret
    exact ⟨rfl, q5⟩
end Go.Proofs.YtgcdopmidmelfaaDoor

/- WALKS: what a key finds, in the reference. -/
import Derived.Test.YtlkfaamjbecieaaDoorSLeaf
import Derived.Test.YtlkfaamjbecieaaDoorBox
import Derived.Test.YtlkfaamjbecieaaDoorKLaws
import Derived.Test.YtlkfaamjbecieaaDoorFlags2
import Derived.Deep.RegionWith
import Derived.Deep.RegionHeld3
import Derived.Test.YtlkfaamjbecieaaDoorSame
import Derived.Test.YtlkfaamjbecieaaDoorKCur
namespace Go.Proofs.YtlkfaamjbecieaaDoor
open Go.RowKit
set_option linter.unusedVariables false
set_option maxRecDepth 20000

theorem KeyAt.at5 {w : World} {S : Nat → Prop} {k : K} {x0 x1 x2 x3 : Value} {a : Option Addr} {n cap : Nat} (h : KeyAt w S k (.agg #[x0, x1, x2, x3, .slice a n cap])) (hn : 0 < n) : ∃ b off, a = some ⟨b, off, none⟩ ∧ S b ∧
    ∀ i (h : i < k.keys.length), ∃ c0 c1 c2 c3 c4, w.cell? ⟨b, off + i * 5, none⟩ = some c0 ∧ w.cell? ⟨b, off + i * 5 + 1, none⟩ = some c1 ∧ w.cell? ⟨b, off + i * 5 + 2, none⟩ = some c2 ∧ w.cell? ⟨b, off + i * 5 + 3, none⟩ = some c3 ∧ w.cell? ⟨b, off + i * 5 + 4, none⟩ = some c4 ∧
      KeyAt w S k.keys[i] (.agg #[c0, c1, c2, c3, c4]) := by
  rw [KeyAt] at h
  obtain ⟨sv', a', n', cap', hv, hs, hl, hc, hm, h⟩ := h
  simp only [Value.agg.injEq, Array.mk.injEq, List.cons.injEq, and_true, Value.slice.injEq] at hv
  obtain ⟨_, _, _, _, rfl, rfl, rfl⟩ := hv
  rcases h with h | ⟨b, off, rfl, hb, h⟩
  · omega
  · exact ⟨b, off, rfl, hb, h⟩
set_option maxHeartbeats 1000000 in
theorem l12Finds_any (b : B) (hbk : bok b = true) (k : K) : ∀ (bv v : Value) (S : Nat → Prop) (w : World) (i : Nat), KeyAt w S k v → Ins S w → BoxAt w bv b → k.allOk = true → i < b.mail.length →
    Calls Tryd.prog 34 #[bv, v, .int .i64 (i : Int)] w fun e w' => e = .returned (.bool (found b k i)) ∧ Below w.heap.size w w' := by
  induction k using K.ind with
  | h k ih =>
    intro bv v S w i h hN hb hok hi
    have hbox := hb
    have hnode : nodeOk k = true := by rw [K.allOk_eq, Bool.and_eq_true] at hok; exact hok.2
    have hsub : ∀ c ∈ k.keys, c.allOk = true := by rw [K.allOk_eq, Bool.and_eq_true] at hok; exact List.all_eq_true.1 hok.1
    obtain ⟨s, rfl, a, L, cap, rfl, hL, hcap, ⟨hmax, _⟩, hmail⟩ := hb
    have hl10 := (bok_next hbk).2.2
    rcases hmail with h0 | ⟨gm, off, rfl, hg, hcells⟩
    · omega
    obtain ⟨c0, c1, c2⟩ := hcells i _ (List.getElem?_eq_getElem hi)
    have hme := List.getElem?_eq_getElem hi
    have hlast := fun h0 => hcells (L - 1) _ (List.getElem?_eq_getElem h0)
    have hmo := bok_mok hbk _ (List.getElem_mem hi)
    obtain ⟨m, hm⟩ : ∃ m, b.mail[i] = m := ⟨_, rfl⟩
    rw [hm] at c0 c1 c2 hme hmo
    have hfd := found_of (k := k) hme
    rw [K.finds_eq] at hfd
    obtain ⟨sa, sn, sc, ka, kn, kc, rfl, hs, hsn, hkn, hkc, hkm, hsm⟩ := h.open
    obtain ⟨g0, g7, g4, g5, g6⟩ := node_cases hnode
    have hiL : i < L := by omega
    have hiI : (i : Int) < (L : Int) := by omega
    have HN := Lib.hid hnode; have HS := Lib.hid hs; have HK := Lib.hid h; have HB := Lib.hid hbox; have IH := Lib.hid ih; have HU := Lib.hid hsub; have HI := Lib.hid hi; have HF := Lib.hid hfd; have HM := Lib.hid hmo
    have HL := Lib.hid hL; have HE := Lib.hid hme; have HLA := Lib.hid hlast; have HKN := Lib.hid hkn; have HOK := Lib.hid hok
    clear hnode hs h hbox ih hsub hi hfd hmo hL hm hme hkn hok hcells hlast
    have nF : gm < w.heap.size + 1 := by omega
    have nG : gm < w.heap.size + 1 + 1 := by omega
    have hcase : k.kind = 0 ∨ k.kind = 1 ∨ k.kind = 2 ∨ k.kind = 3 ∨ k.kind = 4 ∨ k.kind = 5 ∨ k.kind = 6 ∨ k.kind = 7 := by omega
    rcases hcase with hk | hk | hk | hk | hk | hk | hk | hk
    · clear g0 g7 g4 g5 g6
      have hr : found b k i = true := by rw [HF.out]; simp [hk, leafFinds]
      have HR := Lib.hid hr
      clear hr
      rw [hk]
      go_enter Tryd.func34, Tryd.ntmps34
      go_wp2_with fail
      go_ret
      exact ⟨ret_bool HR.out.symm, by go_grown⟩
    · -- has
      clear g0 g7 g4 g5 g6
      have hfl : flag1 k.flag = true := by
        have hn := HN.out
        unfold nodeOk nodeB at hn
        rw [if_neg (by omega), if_pos hk, Bool.and_eq_true, Bool.and_eq_true] at hn
        exact (Bool.and_eq_true_iff.1 hn.2).1
      have hff := (fok_iff _).1 (mok_flags HM.out)
      obtain ⟨f, hf⟩ := Int.eq_ofNat_of_zero_le hff.1
      obtain ⟨g, hg1, hg2⟩ : ∃ g : Nat, k.flag = (g : Int) ∧ 0 < g := by
        simp [flag1] at hfl
        rcases hfl with (((h | h) | h) | h) | h
        · exact ⟨1, h, by omega⟩
        · exact ⟨2, h, by omega⟩
        · exact ⟨4, h, by omega⟩
        · exact ⟨8, h, by omega⟩
        · exact ⟨16, h, by omega⟩
      have hr : found b k i = decide (f / g % 2 = 1) := by rw [HF.out]; simp [hk, leafFinds, hf, hg1]
      rw [hf] at c1
      have hgI : 0 < (g : Int) := by omega
      obtain ⟨v1, v2⟩ := div_bd f g (by omega)
      clear hfl hff hf
      rw [hk, hg1]
      rcases mod2_cases f g with ⟨h1, h2⟩ | ⟨h1, h2⟩
      all_goals
        rw [h2] at hr
        have HR := Lib.hid hr
        clear hr h2
        go_enter Tryd.func34, Tryd.ntmps34
        go_wp2_with fail
        go_ret
        exact ⟨ret_bool (by rw [HR.out]; rfl), by go_grown⟩
    · clear g0 g7 g4 g5 g6
      have ht : nameOk k.text = true := by
        have hn := HN.out
        unfold nodeOk nodeB at hn
        rw [if_neg (by omega), if_neg (by omega), if_pos hk, Bool.and_eq_true, Bool.and_eq_true] at hn
        exact (Bool.and_eq_true_iff.1 hn.2).1
      have ht8 : k.text.size ≤ 8 := by simp [nameOk] at ht; omega
      have hmt : m.text.size ≤ 20 := mok_text HM.out
      have hr : found b k i = partAt m.text.data.toList k.text.data.toList := by rw [HF.out]; simp [hk, leafFinds]
      have HR := Lib.hid hr
      clear hr ht
      rw [hk]
      go_enter Tryd.func34, Tryd.ntmps34
      go_wp2_with fail
      refine (l12Contains_any _ _ _ (by omega) (by omega)).mono ?_
      rintro e w' ⟨rfl, rfl⟩
      go_wp2_with fail
      go_ret
      exact ⟨ret_bool HR.out.symm, by go_grown⟩
    · clear g0 g7 g4 g5 g6
      have hr : found b k i = setHas k.set b.mail.length ((i : Int) + 1) := by rw [HF.out]; simp [hk, leafFinds]
      rw [HL.out] at hr
      have HR := Lib.hid hr
      clear hr
      rw [hk]
      go_enter Tryd.func34, Tryd.ntmps34
      go_wp2_with fail
      refine (l3Has_any k.set _ _ _ S _ (HS.out.below hN (by go_grown))).mono ?_
      rintro e w' ⟨rfl, rfl⟩
      go_wp2_with fail
      go_ret
      exact ⟨ret_bool HR.out.symm, by go_grown⟩
    · clear g0 g7 g4 g5 g6
      have hL1 : L - 1 < b.mail.length := by rw [HL.out]; omega
      have e0 := (HLA.out hL1).1
      have hlu : (b.mail[L - 1]'hL1).uid = lastUid b := by
        unfold lastUid
        rw [List.getLast?_eq_getElem?, HL.out, List.getElem?_eq_getElem hL1]
      rw [hlu] at e0
      have hr : found b k i = setHas k.set (lastUid b) m.uid := by rw [HF.out]; simp [hk, leafFinds]
      have HR := Lib.hid hr
      have nA : ((L : Int) - 1).toNat = L - 1 := by omega
      have nE : (1 : Int) ≤ (L : Int) := by omega
      have nW : IntKind.i64.wrap ((L : Int) - 1) = (L : Int) - 1 := IntWalk.i64_in _ (by omega)
      have nC : (L : Int) - 1 < (L : Int) := by omega
      have nD : ((L - 1 : Nat) : Int) = (L : Int) - 1 := by omega
      clear hr hlu HLA hL1
      rw [hk]
      go_enter Tryd.func34, Tryd.ntmps34
      go_wp2_with fail
      go_quiet (first | (go_at_call 54; exact Calls.quiet_of_same ((l3Has_any k.set _ _ _ S _ (by exact HS.out.below hN (below_drewN (by go_grown) _))).mono fun _ _ h => ⟨h.1, h.2.symm⟩)))
      go_wp2_with fail
      go_ret
      exact ⟨ret_bool HR.out.symm, below_drewN (by go_grown) _⟩
    · have h1 : k.keys.length = 1 := g5 hk
      clear g0 g7 g4 g5 g6
      obtain ⟨kb, koff, rfl, hkb, hkeys⟩ := HK.out.at5 (show 0 < kn by have := HKN.out; omega)
      obtain ⟨x0, x1, x2, x3, x4, d0, d1, d2, d3, d4, hc0⟩ := hkeys 0 (by omega)
      rw [Nat.zero_mul, Nat.add_zero] at d0 d1 d2 d3 d4
      have hkb1 := hN.lt hkb
      have hkb2 : kb < w.heap.size + 1 := by omega
      have hkb3 : kb < w.heap.size + 1 + 1 := by omega
      have HC0 := Lib.hid hc0
      have hkn0 : 0 < (kn : Int) := by have := HKN.out; omega
      have hkn1 : 0 < kn := by have := HKN.out; omega
      have hr : found b k i = !found b k.keys[0] i := by
        rw [HF.out, if_pos hk, found_of HE.out, List.getD_eq_getElem?_getD, List.getElem?_map, List.getElem?_eq_getElem (by omega)]; rfl
      have HR := Lib.hid hr
      have HC := Lib.hid (fun (W : World) (q : Below w.heap.size w W) => IH.out _ (List.getElem_mem (show 0 < k.keys.length by omega)) (.agg #[.int .i64 b.next, .slice (some ⟨gm, off, none⟩) L cap]) (.agg #[x0, x1, x2, x3, x4]) S W i (hc0.below hN q) (hN.below q) (HB.out.below q) (HU.out _ (List.getElem_mem (show 0 < k.keys.length by omega))) HI.out)
      clear hr hc0 hkeys
      obtain ⟨w3, hw3⟩ : ∃ w3, w3 = ((w.alloc (.cells #[.int .i64 b.next, .slice (some ⟨gm, off, none⟩) L cap] 25)).alloc (.cells #[.int .i64 5, .int .i64 k.flag, .string k.text, .slice sa sn sc, .slice (some ⟨kb, koff, none⟩) kn kc] 29)).alloc (.cells #[.int .i64 m.uid, .int .i64 m.flags, .string m.text] 40) := ⟨_, rfl⟩
      have b3 : Below w.heap.size w w3 := by rw [hw3]; go_grown
      have z0 : w3.heap[w.heap.size]? = some (.cells #[.int .i64 b.next, .slice (some ⟨gm, off, none⟩) L cap] 25 (0, 0)) := by
        rw [hw3, Below.heap_alloc _ _ _ (by simp; omega), Below.heap_alloc _ _ _ (by simp)]; exact heap_alloc_new w _
      have z1 : w3.heap[w.heap.size + 1]? = some (.cells #[.int .i64 5, .int .i64 k.flag, .string k.text, .slice sa sn sc, .slice (some ⟨kb, koff, none⟩) kn kc] 29 (0, 0)) := by
        rw [hw3, Below.heap_alloc _ _ _ (by simp)]
        have := heap_alloc_new (w.alloc (.cells #[.int .i64 b.next, .slice (some ⟨gm, off, none⟩) L cap] 25)) (.cells #[.int .i64 5, .int .i64 k.flag, .string k.text, .slice sa sn sc, .slice (some ⟨kb, koff, none⟩) kn kc] 29)
        simpa using this
      have HW := Lib.hid hw3; have Z0 := Lib.hid z0; have Z1 := Lib.hid z1
      have l1 := lt_of_block z1
      have hd : ∀ o c, w.cell? ⟨kb, o, none⟩ = some c → w3.cell? ⟨kb, o, none⟩ = some c := fun o c e => (b3.cell (p := ⟨kb, o, none⟩) hkb1).trans e
      have D := Lib.hid (And.intro (hd _ _ d0) (And.intro (hd _ _ d1) (And.intro (hd _ _ d2) (And.intro (hd _ _ d3) (hd _ _ d4)))))
      clear hw3 z0 z1 hd
      rw [hk]
      go_enter Tryd.func34, Tryd.ntmps34
      go_wp2_with fail
      rw [← HW.out]
      clear c0 c1 c2 d0 d1 d2 d3 d4
      obtain ⟨a0, a1, f0, f1⟩ := two_cells Z0.out
      obtain ⟨e0, e1, e2, e3, e4, y0, y1, y2, y3, y4⟩ := five_cells Z1.out
      obtain ⟨d0, d1, d2, d3, d4⟩ := D.out
      clear e0 e1 e2 e3 y0 y1 y2 y3 y4 f0 f1
      go_region_held3 (fun W => (W.cell? ⟨w.heap.size, 0, none⟩ = some (.int .i64 b.next) ∧ W.cell? ⟨w.heap.size, 1, none⟩ = some (.slice (some ⟨gm, off, none⟩) L cap) ∧ W.cell? ⟨w.heap.size + 1, 4, none⟩ = some (.slice (some ⟨kb, koff, none⟩) kn kc)) ∧ (W.cell? ⟨kb, koff, none⟩ = some x0 ∧ W.cell? ⟨kb, koff + 1, none⟩ = some x1 ∧ W.cell? ⟨kb, koff + 2, none⟩ = some x2 ∧ W.cell? ⟨kb, koff + 3, none⟩ = some x3 ∧ W.cell? ⟨kb, koff + 4, none⟩ = some x4)) (first | exact ⟨⟨a0, a1, e4⟩, d0, d1, d2, d3, d4⟩ | (go_keep; done))
        ((go_at_call 34; refine (HC.out _ (by first | exact b3 | exact b3.drew)).mono ?_; rintro e w4 ⟨rfl, q4⟩; obtain ⟨a0, a1, f0, f1⟩ := two_cells ((q4.block w.heap.size (by show _ < w3.heap.size; omega)).trans Z0.out); obtain ⟨e0, e1, e2, e3, e4, y0, y1, y2, y3, y4⟩ := five_cells ((q4.block (w.heap.size + 1) (by show _ < w3.heap.size; omega)).trans Z1.out); have hd : ∀ o c, w3.cell? ⟨kb, o, none⟩ = some c → w4.cell? ⟨kb, o, none⟩ = some c := fun o c e => (q4.cell (p := ⟨kb, o, none⟩) (by show kb < w3.heap.size; omega)).trans e; obtain ⟨d0, d1, d2, d3, d4⟩ : (w4.cell? ⟨kb, koff, none⟩ = some x0 ∧ w4.cell? ⟨kb, koff + 1, none⟩ = some x1 ∧ w4.cell? ⟨kb, koff + 2, none⟩ = some x2 ∧ w4.cell? ⟨kb, koff + 3, none⟩ = some x3 ∧ w4.cell? ⟨kb, koff + 4, none⟩ = some x4) := ⟨hd _ _ D.out.1, hd _ _ D.out.2.1, hd _ _ D.out.2.2.1, hd _ _ D.out.2.2.2.1, hd _ _ D.out.2.2.2.2⟩; have bel4 : Below w.heap.size w w4 := Below.trans (by first | exact b3 | exact b3.drew) (q4.mono (by show _ ≤ w3.heap.size; omega)); clear hd q4))
      go_wp2_with fail
      go_ret
      exact ⟨ret_bool HR.out.symm, by first | exact bel4 | exact bel4.drew | exact below_drewN bel4 _⟩
    ·
      have h2 : k.keys.length = 2 := g6 (by omega)
      have h0k : 0 < k.keys.length := by omega
      have h1k : 1 < k.keys.length := by omega
      clear g0 g7 g4 g5 g6
      obtain ⟨kb, koff, rfl, hkb, hkeys⟩ := HK.out.at5 (show 0 < kn by have := HKN.out; omega)
      obtain ⟨x0, x1, x2, x3, x4, d0, d1, d2, d3, d4, hc0⟩ := hkeys 0 h0k
      obtain ⟨y0, y1, y2, y3, y4, g0, g1, g2, g3, g4, hc1⟩ := hkeys 1 h1k
      rw [Nat.zero_mul, Nat.add_zero] at d0 d1 d2 d3 d4
      rw [Nat.one_mul] at g0 g1 g2 g3 g4
      have hkb1 := hN.lt hkb
      have hkb2 : kb < w.heap.size + 1 := by omega
      have hkb3 : kb < w.heap.size + 1 + 1 := by omega
      have hkn0 : 0 < kn := by have := HKN.out; omega
      have hkn1 : 1 < kn := by have := HKN.out; omega
      have hkn2 : 1 < (kn : Int) := by omega
      have hr : found b k i = Bool.and (found b k.keys[0] i) (found b k.keys[1] i) := by
        rw [HF.out, found_of HE.out, found_of HE.out]
        simp [hk, List.getD_eq_getElem?_getD, List.getElem?_map, List.getElem?_eq_getElem h0k, List.getElem?_eq_getElem h1k]
      have HC := Lib.hid (fun (W : World) (q : Below w.heap.size w W) => IH.out _ (List.getElem_mem h0k) (.agg #[.int .i64 b.next, .slice (some ⟨gm, off, none⟩) L cap]) (.agg #[x0, x1, x2, x3, x4]) S W i (hc0.below hN q) (hN.below q) (HB.out.below q) (HU.out _ (List.getElem_mem h0k)) HI.out)
      have HD := Lib.hid (fun (W : World) (q : Below w.heap.size w W) => IH.out _ (List.getElem_mem h1k) (.agg #[.int .i64 b.next, .slice (some ⟨gm, off, none⟩) L cap]) (.agg #[y0, y1, y2, y3, y4]) S W i (hc1.below hN q) (hN.below q) (HB.out.below q) (HU.out _ (List.getElem_mem h1k)) HI.out)
      clear hc0 hc1 hkeys
      obtain ⟨w3, hw3⟩ : ∃ w3, w3 = ((w.alloc (.cells #[.int .i64 b.next, .slice (some ⟨gm, off, none⟩) L cap] 25)).alloc (.cells #[.int .i64 6, .int .i64 k.flag, .string k.text, .slice sa sn sc, .slice (some ⟨kb, koff, none⟩) kn kc] 29)).alloc (.cells #[.int .i64 m.uid, .int .i64 m.flags, .string m.text] 40) := ⟨_, rfl⟩
      have b3 : Below w.heap.size w w3 := by rw [hw3]; go_grown
      have z0 : w3.heap[w.heap.size]? = some (.cells #[.int .i64 b.next, .slice (some ⟨gm, off, none⟩) L cap] 25 (0, 0)) := by
        rw [hw3, Below.heap_alloc _ _ _ (by simp; omega), Below.heap_alloc _ _ _ (by simp)]; exact heap_alloc_new w _
      have z1 : w3.heap[w.heap.size + 1]? = some (.cells #[.int .i64 6, .int .i64 k.flag, .string k.text, .slice sa sn sc, .slice (some ⟨kb, koff, none⟩) kn kc] 29 (0, 0)) := by
        rw [hw3, Below.heap_alloc _ _ _ (by simp)]
        have := heap_alloc_new (w.alloc (.cells #[.int .i64 b.next, .slice (some ⟨gm, off, none⟩) L cap] 25)) (.cells #[.int .i64 6, .int .i64 k.flag, .string k.text, .slice sa sn sc, .slice (some ⟨kb, koff, none⟩) kn kc] 29)
        simpa using this
      have l1 := lt_of_block z1
      have HZ := Lib.hid (fun (W : World) (q : Below w3.heap.size w3 W) =>
        have hd : ∀ o c, w.cell? ⟨kb, o, none⟩ = some c → W.cell? ⟨kb, o, none⟩ = some c := fun o c e => ((b3.trans (q.mono b3.size)).cell (p := ⟨kb, o, none⟩) hkb1).trans e
        have u0 := two_cells ((q.block w.heap.size (by omega)).trans z0)
        have u1 := five_cells ((q.block (w.heap.size + 1) (by omega)).trans z1)
        And.intro (And.intro u0.1 (And.intro u0.2.1 u1.2.2.2.2.1)) (And.intro (And.intro (hd _ _ d0) (And.intro (hd _ _ d1) (And.intro (hd _ _ d2) (And.intro (hd _ _ d3) (hd _ _ d4))))) (And.intro (hd _ _ g0) (And.intro (hd _ _ g1) (And.intro (hd _ _ g2) (And.intro (hd _ _ g3) (hd _ _ g4)))))))
      have HW := Lib.hid hw3
      clear hw3 z0 z1
      rcases hp : found b k.keys[0] i with _ | _
      ·
        rw [hp] at HC hr
        have HR := Lib.hid hr
        clear hr hp
        rw [hk]
        go_enter Tryd.func34, Tryd.ntmps34
        go_wp2_with fail
        rw [← HW.out]
        clear c0 c1 c2 d0 d1 d2 d3 d4 g0 g1 g2 g3 g4
        obtain ⟨⟨a0, a1, e4⟩, ⟨d0, d1, d2, d3, d4⟩, g0, g1, g2, g3, g4⟩ := HZ.out w3 (Below.refl _ _)
        refine wp_region_held_drew (S := (fun W => (W.cell? ⟨w.heap.size, 0, none⟩ = some (.int .i64 b.next) ∧ W.cell? ⟨w.heap.size, 1, none⟩ = some (.slice (some ⟨gm, off, none⟩) L cap) ∧ W.cell? ⟨w.heap.size + 1, 4, none⟩ = some (.slice (some ⟨kb, koff, none⟩) kn kc)) ∧ (W.cell? ⟨kb, koff, none⟩ = some x0 ∧ W.cell? ⟨kb, koff + 1, none⟩ = some x1 ∧ W.cell? ⟨kb, koff + 2, none⟩ = some x2 ∧ W.cell? ⟨kb, koff + 3, none⟩ = some x3 ∧ W.cell? ⟨kb, koff + 4, none⟩ = some x4) ∧ (W.cell? ⟨kb, koff + 5, none⟩ = some y0 ∧ W.cell? ⟨kb, koff + 5 + 1, none⟩ = some y1 ∧ W.cell? ⟨kb, koff + 5 + 2, none⟩ = some y2 ∧ W.cell? ⟨kb, koff + 5 + 3, none⟩ = some y3 ∧ W.cell? ⟨kb, koff + 5 + 4, none⟩ = some y4))) (by kernel_rfl) ⟨⟨a0, a1, e4⟩, ⟨d0, d1, d2, d3, d4⟩, g0, g1, g2, g3, g4⟩ (fun hHeld => ?_)
        refine wpAnyH_take (i := 0) (v := ?_) rfl (by kernel_rfl) (by kernel_rfl) (by kernel_rfl) (fun _ _ _ h => h) (Or.inl ⟨by rfl, ?_⟩) hHeld ?_
        rotate_left
        focus (intro W hSw; (try dsimp only at hSw); go_simp; try rfl)
        simp only [Act.put, List.setIfInBounds_toArray, List.set_cons_zero, List.set_cons_succ, List.getElem_toArray, List.getElem_cons_zero]
        refine wpAnyH_take (i := 1) (v := ?_) rfl (by kernel_rfl) (by kernel_rfl) (by kernel_rfl) (fun _ _ _ h => h) (Or.inl ⟨by rfl, ?_⟩) hHeld ?_
        rotate_left
        focus (intro W hSw; (try dsimp only at hSw); go_simp; try rfl)
        simp only [Act.put, List.setIfInBounds_toArray, List.set_cons_zero, List.set_cons_succ, List.getElem_toArray, List.getElem_cons_zero, List.getElem_cons_succ]
        refine wpAnyH_take (i := 2) (v := ?_) rfl (by kernel_rfl) (by kernel_rfl) (by kernel_rfl) (fun _ _ _ h => h) (Or.inl ⟨by rfl, ?_⟩) hHeld ?_
        rotate_left
        focus (intro W hSw; (try dsimp only at hSw); go_simp; try rfl)
        simp only [Act.put, List.setIfInBounds_toArray, List.set_cons_zero, List.set_cons_succ, List.getElem_toArray, List.getElem_cons_zero, List.getElem_cons_succ]
        refine wpAnyH_take (i := 3) (v := ?_) rfl (by kernel_rfl) (by kernel_rfl) (by kernel_rfl) (fun _ _ _ h => h) (Or.inl ⟨by rfl, ?_⟩) hHeld ?_
        rotate_left
        focus (intro W hSw; (try dsimp only at hSw); go_simp; try rfl)
        simp only [Act.put, List.setIfInBounds_toArray, List.set_cons_zero, List.set_cons_succ, List.getElem_toArray, List.getElem_cons_zero, List.getElem_cons_succ]
        refine wpAnyH_take (i := 4) (v := ?_) rfl (by kernel_rfl) (by kernel_rfl) (by kernel_rfl) (fun _ _ _ h => h) (Or.inl ⟨by rfl, ?_⟩) hHeld ?_
        rotate_left
        focus (intro W hSw; (try dsimp only at hSw); go_simp; try rfl)
        simp only [Act.put, List.setIfInBounds_toArray, List.set_cons_zero, List.set_cons_succ, List.getElem_toArray, List.getElem_cons_zero, List.getElem_cons_succ]
        refine wpAnyH_take (i := 5) (v := ?_) rfl (by kernel_rfl) (by kernel_rfl) (by kernel_rfl) (fun _ _ _ h => h) (Or.inl ⟨by rfl, ?_⟩) hHeld ?_
        rotate_left
        focus (intro W hSw; (try dsimp only at hSw); go_simp; try rfl)
        simp only [Act.put, List.setIfInBounds_toArray, List.set_cons_zero, List.set_cons_succ, List.getElem_toArray, List.getElem_cons_zero, List.getElem_cons_succ]
        refine wpAnyH_ready (rs := [6]) (by kernel_rfl) (by simp) ?_
        refine AllReadyH.cons rfl (fun K hK => ?_) AllReadyH.nil
        go_simp
        (go_at_call 34; refine (HC.out _ (by first | exact b3 | exact b3.drew | exact b3.drew.drew)).mono ?_; rintro e w4 ⟨rfl, q4⟩; have b34 : Below w3.heap.size w3 w4 := Below.trans (by first | exact Below.refl _ _ | exact (Below.refl _ _).drew | exact (Below.refl _ _).drew.drew) q4; have bel4 := b3.trans (b34.mono b3.size); clear a0 a1 e4 d0 d1 d2 d3 d4 g0 g1 g2 g3 g4; obtain ⟨⟨a0, a1, e4⟩, ⟨d0, d1, d2, d3, d4⟩, g0, g1, g2, g3, g4⟩ := HZ.out w4 b34; clear q4)
        refine hK.out _ _ ⟨⟨a0, a1, e4⟩, ⟨d0, d1, d2, d3, d4⟩, g0, g1, g2, g3, g4⟩ (fun hHeld => ?_)
        clear hK K
        try simp only [Act.put, List.setIfInBounds_toArray, List.set_cons_zero, List.set_cons_succ, List.getElem_toArray, List.getElem_cons_zero, List.getElem_cons_succ]
        refine wpAnyH_take (i := 7) (v := ?_) rfl (by kernel_rfl) (by kernel_rfl) (by kernel_rfl) (fun _ _ _ h => h) (Or.inl ⟨by rfl, ?_⟩) hHeld ?_
        rotate_left
        focus (intro W hSw; (try dsimp only at hSw); go_simp; try rfl)
        simp only [Act.put, List.setIfInBounds_toArray, List.set_cons_zero, List.set_cons_succ, List.getElem_toArray, List.getElem_cons_zero, List.getElem_cons_succ]
        refine wpAnyH_take (i := 8) (v := undef) rfl (by kernel_rfl) (by kernel_rfl) (by kernel_rfl) (fun _ _ _ h => h) (Or.inr ⟨by rfl, rfl⟩) hHeld ?_
        simp only [Act.put, List.setIfInBounds_toArray, List.set_cons_zero, List.set_cons_succ, List.getElem_toArray, List.getElem_cons_zero, List.getElem_cons_succ]
        refine wpAnyH_take (i := 9) (v := undef) rfl (by kernel_rfl) (by kernel_rfl) (by kernel_rfl) (fun _ _ _ h => h) (Or.inr ⟨by rfl, rfl⟩) hHeld ?_
        simp only [Act.put, List.setIfInBounds_toArray, List.set_cons_zero, List.set_cons_succ, List.getElem_toArray, List.getElem_cons_zero, List.getElem_cons_succ]
        refine wpAnyH_take (i := 10) (v := undef) rfl (by kernel_rfl) (by kernel_rfl) (by kernel_rfl) (fun _ _ _ h => h) (Or.inr ⟨by rfl, rfl⟩) hHeld ?_
        simp only [Act.put, List.setIfInBounds_toArray, List.set_cons_zero, List.set_cons_succ, List.getElem_toArray, List.getElem_cons_zero, List.getElem_cons_succ]
        refine wpAnyH_take (i := 11) (v := undef) rfl (by kernel_rfl) (by kernel_rfl) (by kernel_rfl) (fun _ _ _ h => h) (Or.inr ⟨by rfl, rfl⟩) hHeld ?_
        simp only [Act.put, List.setIfInBounds_toArray, List.set_cons_zero, List.set_cons_succ, List.getElem_toArray, List.getElem_cons_zero, List.getElem_cons_succ]
        refine wpAnyH_take (i := 12) (v := undef) rfl (by kernel_rfl) (by kernel_rfl) (by kernel_rfl) (fun _ _ _ h => h) (Or.inr ⟨by rfl, rfl⟩) hHeld ?_
        simp only [Act.put, List.setIfInBounds_toArray, List.set_cons_zero, List.set_cons_succ, List.getElem_toArray, List.getElem_cons_zero, List.getElem_cons_succ]
        refine wpAnyH_take (i := 13) (v := undef) rfl (by kernel_rfl) (by kernel_rfl) (by kernel_rfl) (fun _ _ _ h => h) (Or.inr ⟨by rfl, rfl⟩) hHeld ?_
        simp only [Act.put, List.setIfInBounds_toArray, List.set_cons_zero, List.set_cons_succ, List.getElem_toArray, List.getElem_cons_zero, List.getElem_cons_succ]
        refine wpAnyH_take (i := 14) (v := undef) rfl (by kernel_rfl) (by kernel_rfl) (by kernel_rfl) (fun _ _ _ h => h) (Or.inr ⟨by rfl, rfl⟩) hHeld ?_
        simp only [Act.put, List.setIfInBounds_toArray, List.set_cons_zero, List.set_cons_succ, List.getElem_toArray, List.getElem_cons_zero, List.getElem_cons_succ]
        refine wpAnyH_take (i := 15) (v := ?_) rfl (by kernel_rfl) (by kernel_rfl) (by kernel_rfl) (fun _ _ _ h => h) (Or.inl ⟨by rfl, ?_⟩) hHeld ?_
        rotate_left
        focus (intro W hSw; (try dsimp only at hSw); go_simp; try rfl)
        simp only [Act.put, List.setIfInBounds_toArray, List.set_cons_zero, List.set_cons_succ, List.getElem_toArray, List.getElem_cons_zero, List.getElem_cons_succ]
        refine wpAnyH_take (i := 16) (v := ?_) rfl (by kernel_rfl) (by kernel_rfl) (by kernel_rfl) (fun _ _ _ h => h) (Or.inl ⟨by rfl, ?_⟩) hHeld ?_
        rotate_left
        focus (intro W hSw; (try dsimp only at hSw); go_simp; try rfl)
        simp only [Act.put, List.setIfInBounds_toArray, List.set_cons_zero, List.set_cons_succ, List.getElem_toArray, List.getElem_cons_zero, List.getElem_cons_succ]
        refine wpAnyH_done (by kernel_rfl) ?_ _
        go_wp2_with fail
        go_ret
        exact ⟨ret_bool (by rw [HR.out]; rfl), by first | exact bel4 | exact bel4.drew | exact below_drewN bel4 _⟩
      ·
        rw [hp] at HC hr
        have HR := Lib.hid hr
        clear hr hp
        rw [hk]
        go_enter Tryd.func34, Tryd.ntmps34
        go_wp2_with fail
        rw [← HW.out]
        clear c0 c1 c2 d0 d1 d2 d3 d4 g0 g1 g2 g3 g4
        obtain ⟨⟨a0, a1, e4⟩, ⟨d0, d1, d2, d3, d4⟩, g0, g1, g2, g3, g4⟩ := HZ.out w3 (Below.refl _ _)
        go_region_held3 (fun W => (W.cell? ⟨w.heap.size, 0, none⟩ = some (.int .i64 b.next) ∧ W.cell? ⟨w.heap.size, 1, none⟩ = some (.slice (some ⟨gm, off, none⟩) L cap) ∧ W.cell? ⟨w.heap.size + 1, 4, none⟩ = some (.slice (some ⟨kb, koff, none⟩) kn kc)) ∧ (W.cell? ⟨kb, koff, none⟩ = some x0 ∧ W.cell? ⟨kb, koff + 1, none⟩ = some x1 ∧ W.cell? ⟨kb, koff + 2, none⟩ = some x2 ∧ W.cell? ⟨kb, koff + 3, none⟩ = some x3 ∧ W.cell? ⟨kb, koff + 4, none⟩ = some x4) ∧ (W.cell? ⟨kb, koff + 5, none⟩ = some y0 ∧ W.cell? ⟨kb, koff + 5 + 1, none⟩ = some y1 ∧ W.cell? ⟨kb, koff + 5 + 2, none⟩ = some y2 ∧ W.cell? ⟨kb, koff + 5 + 3, none⟩ = some y3 ∧ W.cell? ⟨kb, koff + 5 + 4, none⟩ = some y4)) (first | exact ⟨⟨a0, a1, e4⟩, ⟨d0, d1, d2, d3, d4⟩, g0, g1, g2, g3, g4⟩ | (go_keep; done)) (first | (go_at_call 34; (fail_if_success (have hx := b34)); refine (HC.out _ (by first | exact b3 | exact b3.drew | exact b3.drew.drew)).mono ?_; rintro e w4 ⟨rfl, q4⟩; have b34 : Below w3.heap.size w3 w4 := Below.trans (by first | exact Below.refl _ _ | exact (Below.refl _ _).drew | exact (Below.refl _ _).drew.drew) q4; have bel4 := b3.trans (b34.mono b3.size); clear a0 a1 e4 d0 d1 d2 d3 d4 g0 g1 g2 g3 g4; obtain ⟨⟨a0, a1, e4⟩, ⟨d0, d1, d2, d3, d4⟩, g0, g1, g2, g3, g4⟩ := HZ.out w4 b34; clear q4) | (go_at_call 34; refine (HD.out _ (by first | exact bel4 | exact bel4.drew | exact bel4.drew.drew)).mono ?_; rintro e w5 ⟨rfl, q5⟩; have b35 : Below w3.heap.size w3 w5 := Below.trans (by first | exact b34 | exact b34.drew | exact b34.drew.drew) (q5.mono (by show _ ≤ w4.heap.size; exact b34.size)); have bel5 := b3.trans (b35.mono b3.size); clear a0 a1 e4 d0 d1 d2 d3 d4 g0 g1 g2 g3 g4; obtain ⟨⟨a0, a1, e4⟩, ⟨d0, d1, d2, d3, d4⟩, g0, g1, g2, g3, g4⟩ := HZ.out w5 b35; clear q5))
        go_wp2_with fail
        go_ret
        exact ⟨ret_bool (by rw [HR.out]; rfl), by first | exact bel5 | exact bel5.drew | exact below_drewN bel5 _⟩
    ·
      have h2 : k.keys.length = 2 := g6 (by omega)
      have h0k : 0 < k.keys.length := by omega
      have h1k : 1 < k.keys.length := by omega
      clear g0 g7 g4 g5 g6
      obtain ⟨kb, koff, rfl, hkb, hkeys⟩ := HK.out.at5 (show 0 < kn by have := HKN.out; omega)
      obtain ⟨x0, x1, x2, x3, x4, d0, d1, d2, d3, d4, hc0⟩ := hkeys 0 h0k
      obtain ⟨y0, y1, y2, y3, y4, g0, g1, g2, g3, g4, hc1⟩ := hkeys 1 h1k
      rw [Nat.zero_mul, Nat.add_zero] at d0 d1 d2 d3 d4
      rw [Nat.one_mul] at g0 g1 g2 g3 g4
      have hkb1 := hN.lt hkb
      have hkb2 : kb < w.heap.size + 1 := by omega
      have hkb3 : kb < w.heap.size + 1 + 1 := by omega
      have hkn0 : 0 < kn := by have := HKN.out; omega
      have hkn1 : 1 < kn := by have := HKN.out; omega
      have hkn2 : 1 < (kn : Int) := by omega
      have hr : found b k i = Bool.or (found b k.keys[0] i) (found b k.keys[1] i) := by
        rw [HF.out, found_of HE.out, found_of HE.out]
        simp [hk, List.getD_eq_getElem?_getD, List.getElem?_map, List.getElem?_eq_getElem h0k, List.getElem?_eq_getElem h1k]
      have HC := Lib.hid (fun (W : World) (q : Below w.heap.size w W) => IH.out _ (List.getElem_mem h0k) (.agg #[.int .i64 b.next, .slice (some ⟨gm, off, none⟩) L cap]) (.agg #[x0, x1, x2, x3, x4]) S W i (hc0.below hN q) (hN.below q) (HB.out.below q) (HU.out _ (List.getElem_mem h0k)) HI.out)
      have HD := Lib.hid (fun (W : World) (q : Below w.heap.size w W) => IH.out _ (List.getElem_mem h1k) (.agg #[.int .i64 b.next, .slice (some ⟨gm, off, none⟩) L cap]) (.agg #[y0, y1, y2, y3, y4]) S W i (hc1.below hN q) (hN.below q) (HB.out.below q) (HU.out _ (List.getElem_mem h1k)) HI.out)
      clear hc0 hc1 hkeys
      obtain ⟨w3, hw3⟩ : ∃ w3, w3 = ((w.alloc (.cells #[.int .i64 b.next, .slice (some ⟨gm, off, none⟩) L cap] 25)).alloc (.cells #[.int .i64 7, .int .i64 k.flag, .string k.text, .slice sa sn sc, .slice (some ⟨kb, koff, none⟩) kn kc] 29)).alloc (.cells #[.int .i64 m.uid, .int .i64 m.flags, .string m.text] 40) := ⟨_, rfl⟩
      have b3 : Below w.heap.size w w3 := by rw [hw3]; go_grown
      have z0 : w3.heap[w.heap.size]? = some (.cells #[.int .i64 b.next, .slice (some ⟨gm, off, none⟩) L cap] 25 (0, 0)) := by
        rw [hw3, Below.heap_alloc _ _ _ (by simp; omega), Below.heap_alloc _ _ _ (by simp)]; exact heap_alloc_new w _
      have z1 : w3.heap[w.heap.size + 1]? = some (.cells #[.int .i64 7, .int .i64 k.flag, .string k.text, .slice sa sn sc, .slice (some ⟨kb, koff, none⟩) kn kc] 29 (0, 0)) := by
        rw [hw3, Below.heap_alloc _ _ _ (by simp)]
        have := heap_alloc_new (w.alloc (.cells #[.int .i64 b.next, .slice (some ⟨gm, off, none⟩) L cap] 25)) (.cells #[.int .i64 7, .int .i64 k.flag, .string k.text, .slice sa sn sc, .slice (some ⟨kb, koff, none⟩) kn kc] 29)
        simpa using this
      have l1 := lt_of_block z1
      have HZ := Lib.hid (fun (W : World) (q : Below w3.heap.size w3 W) =>
        have hd : ∀ o c, w.cell? ⟨kb, o, none⟩ = some c → W.cell? ⟨kb, o, none⟩ = some c := fun o c e => ((b3.trans (q.mono b3.size)).cell (p := ⟨kb, o, none⟩) hkb1).trans e
        have u0 := two_cells ((q.block w.heap.size (by omega)).trans z0)
        have u1 := five_cells ((q.block (w.heap.size + 1) (by omega)).trans z1)
        And.intro (And.intro u0.1 (And.intro u0.2.1 u1.2.2.2.2.1)) (And.intro (And.intro (hd _ _ d0) (And.intro (hd _ _ d1) (And.intro (hd _ _ d2) (And.intro (hd _ _ d3) (hd _ _ d4))))) (And.intro (hd _ _ g0) (And.intro (hd _ _ g1) (And.intro (hd _ _ g2) (And.intro (hd _ _ g3) (hd _ _ g4)))))))
      have HW := Lib.hid hw3
      clear hw3 z0 z1
      rcases hp : found b k.keys[0] i with _ | _
      ·
        rw [hp] at HC hr
        have HR := Lib.hid hr
        clear hr hp
        rw [hk]
        go_enter Tryd.func34, Tryd.ntmps34
        go_wp2_with fail
        rw [← HW.out]
        clear c0 c1 c2 d0 d1 d2 d3 d4 g0 g1 g2 g3 g4
        obtain ⟨⟨a0, a1, e4⟩, ⟨d0, d1, d2, d3, d4⟩, g0, g1, g2, g3, g4⟩ := HZ.out w3 (Below.refl _ _)
        go_region_held3 (fun W => (W.cell? ⟨w.heap.size, 0, none⟩ = some (.int .i64 b.next) ∧ W.cell? ⟨w.heap.size, 1, none⟩ = some (.slice (some ⟨gm, off, none⟩) L cap) ∧ W.cell? ⟨w.heap.size + 1, 4, none⟩ = some (.slice (some ⟨kb, koff, none⟩) kn kc)) ∧ (W.cell? ⟨kb, koff, none⟩ = some x0 ∧ W.cell? ⟨kb, koff + 1, none⟩ = some x1 ∧ W.cell? ⟨kb, koff + 2, none⟩ = some x2 ∧ W.cell? ⟨kb, koff + 3, none⟩ = some x3 ∧ W.cell? ⟨kb, koff + 4, none⟩ = some x4) ∧ (W.cell? ⟨kb, koff + 5, none⟩ = some y0 ∧ W.cell? ⟨kb, koff + 5 + 1, none⟩ = some y1 ∧ W.cell? ⟨kb, koff + 5 + 2, none⟩ = some y2 ∧ W.cell? ⟨kb, koff + 5 + 3, none⟩ = some y3 ∧ W.cell? ⟨kb, koff + 5 + 4, none⟩ = some y4)) (first | exact ⟨⟨a0, a1, e4⟩, ⟨d0, d1, d2, d3, d4⟩, g0, g1, g2, g3, g4⟩ | (go_keep; done)) (first | (go_at_call 34; (fail_if_success (have hx := b34)); refine (HC.out _ (by first | exact b3 | exact b3.drew | exact b3.drew.drew)).mono ?_; rintro e w4 ⟨rfl, q4⟩; have b34 : Below w3.heap.size w3 w4 := Below.trans (by first | exact Below.refl _ _ | exact (Below.refl _ _).drew | exact (Below.refl _ _).drew.drew) q4; have bel4 := b3.trans (b34.mono b3.size); clear a0 a1 e4 d0 d1 d2 d3 d4 g0 g1 g2 g3 g4; obtain ⟨⟨a0, a1, e4⟩, ⟨d0, d1, d2, d3, d4⟩, g0, g1, g2, g3, g4⟩ := HZ.out w4 b34; clear q4) | (go_at_call 34; refine (HD.out _ (by first | exact bel4 | exact bel4.drew | exact bel4.drew.drew)).mono ?_; rintro e w5 ⟨rfl, q5⟩; have b35 : Below w3.heap.size w3 w5 := Below.trans (by first | exact b34 | exact b34.drew | exact b34.drew.drew) (q5.mono (by show _ ≤ w4.heap.size; exact b34.size)); have bel5 := b3.trans (b35.mono b3.size); clear a0 a1 e4 d0 d1 d2 d3 d4 g0 g1 g2 g3 g4; obtain ⟨⟨a0, a1, e4⟩, ⟨d0, d1, d2, d3, d4⟩, g0, g1, g2, g3, g4⟩ := HZ.out w5 b35; clear q5))
        go_wp2_with fail
        go_ret
        exact ⟨ret_bool (by rw [HR.out]; rfl), by first | exact bel5 | exact bel5.drew | exact below_drewN bel5 _⟩
      ·
        rw [hp] at HC hr
        have HR := Lib.hid hr
        clear hr hp
        rw [hk]
        go_enter Tryd.func34, Tryd.ntmps34
        go_wp2_with fail
        rw [← HW.out]
        clear c0 c1 c2 d0 d1 d2 d3 d4 g0 g1 g2 g3 g4
        obtain ⟨⟨a0, a1, e4⟩, ⟨d0, d1, d2, d3, d4⟩, g0, g1, g2, g3, g4⟩ := HZ.out w3 (Below.refl _ _)
        refine wp_region_held_drew (S := (fun W => (W.cell? ⟨w.heap.size, 0, none⟩ = some (.int .i64 b.next) ∧ W.cell? ⟨w.heap.size, 1, none⟩ = some (.slice (some ⟨gm, off, none⟩) L cap) ∧ W.cell? ⟨w.heap.size + 1, 4, none⟩ = some (.slice (some ⟨kb, koff, none⟩) kn kc)) ∧ (W.cell? ⟨kb, koff, none⟩ = some x0 ∧ W.cell? ⟨kb, koff + 1, none⟩ = some x1 ∧ W.cell? ⟨kb, koff + 2, none⟩ = some x2 ∧ W.cell? ⟨kb, koff + 3, none⟩ = some x3 ∧ W.cell? ⟨kb, koff + 4, none⟩ = some x4) ∧ (W.cell? ⟨kb, koff + 5, none⟩ = some y0 ∧ W.cell? ⟨kb, koff + 5 + 1, none⟩ = some y1 ∧ W.cell? ⟨kb, koff + 5 + 2, none⟩ = some y2 ∧ W.cell? ⟨kb, koff + 5 + 3, none⟩ = some y3 ∧ W.cell? ⟨kb, koff + 5 + 4, none⟩ = some y4))) (by kernel_rfl) ⟨⟨a0, a1, e4⟩, ⟨d0, d1, d2, d3, d4⟩, g0, g1, g2, g3, g4⟩ (fun hHeld => ?_)
        refine wpAnyH_take (i := 0) (v := ?_) rfl (by kernel_rfl) (by kernel_rfl) (by kernel_rfl) (fun _ _ _ h => h) (Or.inl ⟨by rfl, ?_⟩) hHeld ?_
        rotate_left
        focus (intro W hSw; (try dsimp only at hSw); go_simp; try rfl)
        simp only [Act.put, List.setIfInBounds_toArray, List.set_cons_zero, List.set_cons_succ, List.getElem_toArray, List.getElem_cons_zero]
        refine wpAnyH_take (i := 1) (v := ?_) rfl (by kernel_rfl) (by kernel_rfl) (by kernel_rfl) (fun _ _ _ h => h) (Or.inl ⟨by rfl, ?_⟩) hHeld ?_
        rotate_left
        focus (intro W hSw; (try dsimp only at hSw); go_simp; try rfl)
        simp only [Act.put, List.setIfInBounds_toArray, List.set_cons_zero, List.set_cons_succ, List.getElem_toArray, List.getElem_cons_zero, List.getElem_cons_succ]
        refine wpAnyH_take (i := 2) (v := ?_) rfl (by kernel_rfl) (by kernel_rfl) (by kernel_rfl) (fun _ _ _ h => h) (Or.inl ⟨by rfl, ?_⟩) hHeld ?_
        rotate_left
        focus (intro W hSw; (try dsimp only at hSw); go_simp; try rfl)
        simp only [Act.put, List.setIfInBounds_toArray, List.set_cons_zero, List.set_cons_succ, List.getElem_toArray, List.getElem_cons_zero, List.getElem_cons_succ]
        refine wpAnyH_take (i := 3) (v := ?_) rfl (by kernel_rfl) (by kernel_rfl) (by kernel_rfl) (fun _ _ _ h => h) (Or.inl ⟨by rfl, ?_⟩) hHeld ?_
        rotate_left
        focus (intro W hSw; (try dsimp only at hSw); go_simp; try rfl)
        simp only [Act.put, List.setIfInBounds_toArray, List.set_cons_zero, List.set_cons_succ, List.getElem_toArray, List.getElem_cons_zero, List.getElem_cons_succ]
        refine wpAnyH_take (i := 4) (v := ?_) rfl (by kernel_rfl) (by kernel_rfl) (by kernel_rfl) (fun _ _ _ h => h) (Or.inl ⟨by rfl, ?_⟩) hHeld ?_
        rotate_left
        focus (intro W hSw; (try dsimp only at hSw); go_simp; try rfl)
        simp only [Act.put, List.setIfInBounds_toArray, List.set_cons_zero, List.set_cons_succ, List.getElem_toArray, List.getElem_cons_zero, List.getElem_cons_succ]
        refine wpAnyH_take (i := 5) (v := ?_) rfl (by kernel_rfl) (by kernel_rfl) (by kernel_rfl) (fun _ _ _ h => h) (Or.inl ⟨by rfl, ?_⟩) hHeld ?_
        rotate_left
        focus (intro W hSw; (try dsimp only at hSw); go_simp; try rfl)
        simp only [Act.put, List.setIfInBounds_toArray, List.set_cons_zero, List.set_cons_succ, List.getElem_toArray, List.getElem_cons_zero, List.getElem_cons_succ]
        refine wpAnyH_ready (rs := [6]) (by kernel_rfl) (by simp) ?_
        refine AllReadyH.cons rfl (fun K hK => ?_) AllReadyH.nil
        go_simp
        (go_at_call 34; refine (HC.out _ (by first | exact b3 | exact b3.drew | exact b3.drew.drew)).mono ?_; rintro e w4 ⟨rfl, q4⟩; have b34 : Below w3.heap.size w3 w4 := Below.trans (by first | exact Below.refl _ _ | exact (Below.refl _ _).drew | exact (Below.refl _ _).drew.drew) q4; have bel4 := b3.trans (b34.mono b3.size); clear a0 a1 e4 d0 d1 d2 d3 d4 g0 g1 g2 g3 g4; obtain ⟨⟨a0, a1, e4⟩, ⟨d0, d1, d2, d3, d4⟩, g0, g1, g2, g3, g4⟩ := HZ.out w4 b34; clear q4)
        refine hK.out _ _ ⟨⟨a0, a1, e4⟩, ⟨d0, d1, d2, d3, d4⟩, g0, g1, g2, g3, g4⟩ (fun hHeld => ?_)
        clear hK K
        try simp only [Act.put, List.setIfInBounds_toArray, List.set_cons_zero, List.set_cons_succ, List.getElem_toArray, List.getElem_cons_zero, List.getElem_cons_succ]
        refine wpAnyH_take (i := 7) (v := ?_) rfl (by kernel_rfl) (by kernel_rfl) (by kernel_rfl) (fun _ _ _ h => h) (Or.inl ⟨by rfl, ?_⟩) hHeld ?_
        rotate_left
        focus (intro W hSw; (try dsimp only at hSw); go_simp; try rfl)
        simp only [Act.put, List.setIfInBounds_toArray, List.set_cons_zero, List.set_cons_succ, List.getElem_toArray, List.getElem_cons_zero, List.getElem_cons_succ]
        refine wpAnyH_take (i := 8) (v := undef) rfl (by kernel_rfl) (by kernel_rfl) (by kernel_rfl) (fun _ _ _ h => h) (Or.inr ⟨by rfl, rfl⟩) hHeld ?_
        simp only [Act.put, List.setIfInBounds_toArray, List.set_cons_zero, List.set_cons_succ, List.getElem_toArray, List.getElem_cons_zero, List.getElem_cons_succ]
        refine wpAnyH_take (i := 9) (v := undef) rfl (by kernel_rfl) (by kernel_rfl) (by kernel_rfl) (fun _ _ _ h => h) (Or.inr ⟨by rfl, rfl⟩) hHeld ?_
        simp only [Act.put, List.setIfInBounds_toArray, List.set_cons_zero, List.set_cons_succ, List.getElem_toArray, List.getElem_cons_zero, List.getElem_cons_succ]
        refine wpAnyH_take (i := 10) (v := undef) rfl (by kernel_rfl) (by kernel_rfl) (by kernel_rfl) (fun _ _ _ h => h) (Or.inr ⟨by rfl, rfl⟩) hHeld ?_
        simp only [Act.put, List.setIfInBounds_toArray, List.set_cons_zero, List.set_cons_succ, List.getElem_toArray, List.getElem_cons_zero, List.getElem_cons_succ]
        refine wpAnyH_take (i := 11) (v := undef) rfl (by kernel_rfl) (by kernel_rfl) (by kernel_rfl) (fun _ _ _ h => h) (Or.inr ⟨by rfl, rfl⟩) hHeld ?_
        simp only [Act.put, List.setIfInBounds_toArray, List.set_cons_zero, List.set_cons_succ, List.getElem_toArray, List.getElem_cons_zero, List.getElem_cons_succ]
        refine wpAnyH_take (i := 12) (v := undef) rfl (by kernel_rfl) (by kernel_rfl) (by kernel_rfl) (fun _ _ _ h => h) (Or.inr ⟨by rfl, rfl⟩) hHeld ?_
        simp only [Act.put, List.setIfInBounds_toArray, List.set_cons_zero, List.set_cons_succ, List.getElem_toArray, List.getElem_cons_zero, List.getElem_cons_succ]
        refine wpAnyH_take (i := 13) (v := undef) rfl (by kernel_rfl) (by kernel_rfl) (by kernel_rfl) (fun _ _ _ h => h) (Or.inr ⟨by rfl, rfl⟩) hHeld ?_
        simp only [Act.put, List.setIfInBounds_toArray, List.set_cons_zero, List.set_cons_succ, List.getElem_toArray, List.getElem_cons_zero, List.getElem_cons_succ]
        refine wpAnyH_take (i := 14) (v := undef) rfl (by kernel_rfl) (by kernel_rfl) (by kernel_rfl) (fun _ _ _ h => h) (Or.inr ⟨by rfl, rfl⟩) hHeld ?_
        simp only [Act.put, List.setIfInBounds_toArray, List.set_cons_zero, List.set_cons_succ, List.getElem_toArray, List.getElem_cons_zero, List.getElem_cons_succ]
        refine wpAnyH_take (i := 15) (v := ?_) rfl (by kernel_rfl) (by kernel_rfl) (by kernel_rfl) (fun _ _ _ h => h) (Or.inl ⟨by rfl, ?_⟩) hHeld ?_
        rotate_left
        focus (intro W hSw; (try dsimp only at hSw); go_simp; try rfl)
        simp only [Act.put, List.setIfInBounds_toArray, List.set_cons_zero, List.set_cons_succ, List.getElem_toArray, List.getElem_cons_zero, List.getElem_cons_succ]
        refine wpAnyH_take (i := 16) (v := ?_) rfl (by kernel_rfl) (by kernel_rfl) (by kernel_rfl) (fun _ _ _ h => h) (Or.inl ⟨by rfl, ?_⟩) hHeld ?_
        rotate_left
        focus (intro W hSw; (try dsimp only at hSw); go_simp; try rfl)
        simp only [Act.put, List.setIfInBounds_toArray, List.set_cons_zero, List.set_cons_succ, List.getElem_toArray, List.getElem_cons_zero, List.getElem_cons_succ]
        refine wpAnyH_done (by kernel_rfl) ?_ _
        go_wp2_with fail
        go_ret
        exact ⟨ret_bool (by rw [HR.out]; rfl), by first | exact bel4 | exact bel4.drew | exact below_drewN bel4 _⟩
end Go.Proofs.YtlkfaamjbecieaaDoor

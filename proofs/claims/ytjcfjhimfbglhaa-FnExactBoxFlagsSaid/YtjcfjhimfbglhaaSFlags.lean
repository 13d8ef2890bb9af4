/- WALKS: the reference changes the flags of some messages. -/
import Derived.Test.YtjcfjhimfbglhaaNums
import Derived.Test.YtjcfjhimfbglhaaMid
import Derived.Test.YtjcfjhimfbglhaaFlags3
import Derived.Deep.RegionHeld3
import Derived.Deep.DeepCutAuto
namespace Go.Proofs.Ytjcfjhimfbglhaa
open Go.RowKit
set_option linter.unusedVariables false

theorem flagsTo_no {b : B} {ps : List Int} {how o : Int} (h : bok b = false ∨ numsOk b.mail.length ps = false ∨ hok how = false ∨ fok o = false) : flagsTo b ps how o = (nobox, false) := by
  unfold flagsTo; rw [if_neg]
  rcases h with h | h | h | h <;> simp [h]
theorem flagsTo_yes {b : B} {ps : List Int} {how o : Int} (h1 : bok b = true) (h2 : numsOk b.mail.length ps = true) (h3 : hok how = true) (h4 : fok o = true) : flagsTo b ps how o = (⟨b.next, flagAll how o b.mail ps⟩, true) := by
  unfold flagsTo; rw [if_pos]; simp [h1, h2, h3, h4]
theorem Own.row {w : World} {base g n cap : Nat} {l : List M} (h : Own w base (.slice (some ⟨g, 0, none⟩) n cap) l) : base ≤ g ∧ g < w.heap.size ∧ n = l.length ∧ ∃ cur, w.heap[g]? = some (.cells cur 60 (0, 0)) := by
  rcases h.2 with ⟨h, _⟩ | ⟨g', cap', cur, h, hb, hh, hn, _⟩
  · cases h
  · cases h; exact ⟨hb, lt_of_block hh, rfl, cur, hh⟩
set_option maxHeartbeats 2000000 in
theorem specBoxFlags_any (b : B) (ps : List Int) (how o : Int) (v vp : Value) (w : World) (hb : BoxAt w v b) (hp : IntsAt w vp ps) :
    Calls Try.prog 29 #[v, vp, .int .i64 how, .int .i64 o] w fun e w' => ∃ s, e = .returned (.tuple #[.agg #[.int .i64 (flagsTo b ps how o).1.next, s], .bool (flagsTo b ps how o).2]) ∧ Own w' w.heap.size s (flagsTo b ps how o).1.mail ∧ Below w.heap.size w w' := by
  have hb' := hb
  have hp' := hp
  obtain ⟨s, rfl, a, L, cap, rfl, rfl, hcap, ⟨hmax, hnil⟩, hmail⟩ := hb
  obtain ⟨ap, N, capp, rfl, hN, hcp, _, hints⟩ := hp
  obtain ⟨w1, hw1⟩ : ∃ w1, w1 = (w.alloc (.cells #[.int .i64 b.next, .slice a b.mail.length cap] 29)).alloc (.cells #[.int .i64 0, .slice none 0 0] 29) := ⟨_, rfl⟩
  have bel1 : Below w.heap.size w w1 := by rw [hw1]; go_grown
  have h0 : w1.heap[w.heap.size]? = some (.cells #[.int .i64 b.next, .slice a b.mail.length cap] 29 (0, 0)) := by
    rw [hw1, Below.heap_alloc _ _ _ (by simp)]; exact heap_alloc_new w _
  have h1 : w1.heap[w.heap.size + 1]? = some (.cells #[.int .i64 0, .slice none 0 0] 29 (0, 0)) := by
    rw [hw1]; have := heap_alloc_new (w.alloc (.cells #[.int .i64 b.next, .slice a b.mail.length cap] 29)) (.cells #[.int .i64 0, .slice none 0 0] 29); simpa using this
  have hsz : w.heap.size + 2 ≤ w1.heap.size := by rw [hw1]; simp
  have HW := Lib.hid hw1
  have K := specBoxValid_any b (.agg #[.int .i64 b.next, .slice a b.mail.length cap]) w1 (hb'.below bel1)
  have HK := Lib.hid K; have HB := Lib.hid hb'; have HP := Lib.hid hp'; have HN := Lib.hid hN
  have HMAIL := Lib.hid hmail; have HINTS := Lib.hid hints
  clear hb' hp' hnil hmail hw1 K hN hints
  go_enter Try.func29, Try.ntmps29
  go_wp2_with fail
  rw [← HW.out]
  refine HK.out.mono ?_
  rintro e w2 ⟨rfl, q2⟩
  have g0 := (q2.block _ (by omega)).trans h0
  have g1 := (q2.block _ (by omega)).trans h1
  have bel2 := bel1.trans (q2.mono bel1.size)
  have z1 : w.heap.size + 1 < w2.heap.size := by have := q2.size; omega
  clear h0 h1 bel1 q2 HK HW
  have fin : (bok b = false ∨ numsOk b.mail.length ps = false ∨ hok how = false ∨ fok o = false) → ∀ W, Below w.heap.size w W → Own W w.heap.size (.slice none 0 0) (flagsTo b ps how o).1.mail ∧ Below w.heap.size w W ∧ flagsTo b ps how o = (nobox, false) := by
    intro hno W hW
    rw [flagsTo_no hno]
    exact ⟨World.ownsRow_nil _ _ _ _, hW, rfl⟩
  have HF := Lib.hid fin
  clear fin
  obtain ⟨c0, c1, f0, f1⟩ := two_cells g0
  obtain ⟨c2, c3, f2, f3⟩ := two_cells g1
  rcases hbk : bok b with _ | _
  · clear g0 g1
    go_wp2_with fail
    refine bodyPost_ret (v := .tuple #[.agg #[.int .i64 0, .slice none 0 0], .bool false]) (by simp [results, Try.results29, go_sem, *]) rfl ?_
    have k := HF.out (.inl hbk) ((w2.setCell ⟨w.heap.size + 1, 0, none⟩ (.int .i64 0)).setCell ⟨w.heap.size + 1, 1, none⟩ (.slice none 0 0)) (by go_grown)
    exact ⟨_, by rw [k.2.2]; rfl, k.1, k.2.1⟩
  · obtain ⟨hn0, hn1, hl10⟩ := bok_next hbk
    have G0 := Lib.hid g0; have G1 := Lib.hid g1
    have K := l11Numbers_any b ps (.agg #[.int .i64 b.next, .slice a b.mail.length cap]) (.slice ap N capp) w2 (HB.out.below bel2) (HP.out.below bel2) (by omega)
    have HK := Lib.hid K
    clear K g0 g1
    go_wp2_with fail
    refine HK.out.mono ?_
    rintro e w3 ⟨rfl, q3⟩
    have bel3 := bel2.trans (q3.mono bel2.size)
    have g0 := (q3.block _ (by omega)).trans G0.out
    have g1 := (q3.block _ (by omega)).trans G1.out
    have z3 := q3.size
    clear c0 c1 c2 c3 f0 f1 f2 f3 HK q3 G0 G1
    obtain ⟨c0, c1, f0, f1⟩ := two_cells g0
    obtain ⟨c2, c3, f2, f3⟩ := two_cells g1
    rcases hnk : numsOk b.mail.length ps with _ | _
    · clear g0 g1
      go_wp2_with fail
      refine bodyPost_ret (v := .tuple #[.agg #[.int .i64 0, .slice none 0 0], .bool false]) (by simp [results, Try.results29, go_sem, *]) rfl ?_
      have k := HF.out (.inr (.inl hnk)) ((w3.setCell ⟨w.heap.size + 1, 0, none⟩ (.int .i64 0)).setCell ⟨w.heap.size + 1, 1, none⟩ (.slice none 0 0)) (by go_grown)
      exact ⟨_, by rw [k.2.2]; rfl, k.1, k.2.1⟩
    · have hC := Lib.hid (fun W : World => l6In_any how (-1) 1 W)
      rcases hhk : hok how with _ | _
      · have hc2 := fun W : World => hC.out W
        have hh2 : (decide ((-1 : Int) ≤ how) && decide (how ≤ 1)) = false := hhk
        rw [hh2] at hc2
        have HC2 := Lib.hid hc2
        clear hC hc2 hh2 g0 g1
        go_wp2_with fail
        refine (HC2.out _).mono ?_
        rintro e w4 ⟨rfl, rfl⟩
        go_wp2_with fail
        refine bodyPost_ret (v := .tuple #[.agg #[.int .i64 0, .slice none 0 0], .bool false]) (by simp [results, Try.results29, go_sem, *]) rfl ?_
        have k := HF.out (.inr (.inr (.inl hhk))) ((w3.setCell ⟨w.heap.size + 1, 0, none⟩ (.int .i64 0)).setCell ⟨w.heap.size + 1, 1, none⟩ (.slice none 0 0)) (by go_grown)
        exact ⟨_, by rw [k.2.2]; rfl, k.1, k.2.1⟩
      · have hc2 := fun W : World => hC.out W
        have hh2 : (decide ((-1 : Int) ≤ how) && decide (how ≤ 1)) = true := hhk
        rw [hh2] at hc2
        have HC2 := Lib.hid hc2
        clear hC hc2 hh2
        rcases hfk : fok o with _ | _
        · clear g0 g1
          go_wp2_with fail
          refine (HC2.out _).mono ?_
          rintro e w4 ⟨rfl, rfl⟩
          go_wp2_with fail
          refine (l4Flags_any o _).mono ?_
          rintro e w4 ⟨rfl, rfl⟩
          rw [hfk]
          go_wp2_with fail
          refine bodyPost_ret (v := .tuple #[.agg #[.int .i64 0, .slice none 0 0], .bool false]) (by simp [results, Try.results29, go_sem, *]) rfl ?_
          have k := HF.out (.inr (.inr (.inr hfk))) ((w3.setCell ⟨w.heap.size + 1, 0, none⟩ (.int .i64 0)).setCell ⟨w.heap.size + 1, 1, none⟩ (.slice none 0 0)) (by go_grown)
          exact ⟨_, by rw [k.2.2]; rfl, k.1, k.2.1⟩
        · have hr := flagsTo_yes (b := b) (ps := ps) hbk hnk hhk hfk
          have HR := Lib.hid hr
          have HNK := Lib.hid hnk; have HBK := Lib.hid (bok_mok hbk)
          have HHK := Lib.hid hhk; have HFK := Lib.hid hfk
          have K := l11Copy_at b (.agg #[.int .i64 b.next, .slice a b.mail.length cap]) w3 (HB.out.below bel3)
          have HK := Lib.hid K
          have G0 := Lib.hid g0; have G1 := Lib.hid g1
          clear hr K HF HB g0 g1 hnk hbk hhk
          go_wp2_with fail
          refine (HC2.out _).mono ?_
          rintro e w4 ⟨rfl, rfl⟩
          go_wp2_with fail
          refine (l4Flags_any o _).mono ?_
          rintro e w4 ⟨rfl, rfl⟩
          rw [hfk]
          go_wp2_with fail
          refine HK.out.mono ?_
          rintro e w4 ⟨g, cap4, rfl, hc4, hg1, hg2, ho, q4⟩
          have bel4 := bel3.trans (q4.mono bel3.size)
          have k0 := (q4.block _ (by omega)).trans G0.out
          have k1 := (q4.block _ (by omega)).trans G1.out
          have z4 := q4.size
          have n4 := Nat.ne_of_lt hg2
          obtain ⟨w5, hw5⟩ : ∃ w5, w5 = w4.alloc (.cells #[.int .i64 b.next, .slice (some ⟨g, 0, none⟩) b.mail.length cap4] 29) := ⟨_, rfl⟩
          have x0 : w5.heap[w4.heap.size]? = some (.cells #[.int .i64 b.next, .slice (some ⟨g, 0, none⟩) b.mail.length cap4] 29 (0, 0)) := by rw [hw5]; exact heap_alloc_new w4 _
          have q5 : Below w4.heap.size w4 w5 := by rw [hw5]; exact (Below.refl _ _).alloc (Nat.le_refl _) _
          have ho5 : Own w5 w3.heap.size (.slice (some ⟨g, 0, none⟩) b.mail.length cap4) b.mail := ho.below q5
          have bel5 := bel4.trans (q5.mono bel4.size)
          have k0 := (q5.block _ (by omega)).trans k0
          have k1 := (q5.block _ (by omega)).trans k1
          have s5 : w5.heap.size = w4.heap.size + 1 := by rw [hw5]; simp
          have HW := Lib.hid hw5; have X0 := Lib.hid x0; have HO5 := Lib.hid ho5; have K0 := Lib.hid k0; have K1 := Lib.hid k1
          clear c0 c1 c2 c3 f0 f1 f2 f3 HK ho q4 hw5 x0 ho5 q5 k0 k1 G0 G1 hfk
          go_wp2_with fail
          rw [← HW.out]
          clear HW
          go_loopg [11] N (fun gk i wr => ∃ n : Nat, n + gk = N ∧ i = .int .i64 n ∧ Hid (Own wr w3.heap.size (.slice (some ⟨g, 0, none⟩) b.mail.length cap4) (flagAll how o b.mail (ps.take n))) ∧ Below w.heap.size w wr ∧ Hid (wr.heap[w4.heap.size]? = some (.cells #[.int .i64 b.next, .slice (some ⟨g, 0, none⟩) b.mail.length cap4] 29 (0, 0))) ∧
            Hid (wr.heap[w.heap.size]? = some (.cells #[.int .i64 b.next, .slice a b.mail.length cap] 29 (0, 0))) ∧ Hid (wr.heap[w.heap.size + 1]? = some (.cells #[.int .i64 0, .slice none 0 0] 29 (0, 0))))
          case atStart => exact ⟨0, by omega, rfl, HO5.out, bel5, X0.out, K0.out, K1.out⟩
          case round =>
            clear HO5 bel5 X0 K0 K1
            obtain ⟨n, hn, rfl, HO, hq, X0, K0, K1⟩ := hrel
            obtain ⟨c0, c1, f0, f1⟩ := two_cells K0.out
            obtain ⟨d0, d1, e0, e1⟩ := two_cells X0.out
            have zq := lt_of_block X0.out
            by_cases hlt : n < N
            · rcases HINTS.out with h0 | ⟨gp, offp, rfl, hgp, hpc⟩
              · exfalso; omega
              have hlt' : n < ps.length := by rw [HN.out]; exact hlt
              have p0 := (hq.cell (p := ⟨gp, _, none⟩) hgp).trans (hpc n _ (List.getElem?_eq_getElem hlt'))
              obtain ⟨np1, np2, _⟩ := ascN_drop ps 0 b.mail.length n HNK.out hlt'
              have hst : ps.take (n + 1) = ps.take n ++ [ps[n]] := List.take_succ_eq_append_getElem hlt'
              have hbefore : ∀ q ∈ ps.take n, q < ps[n] := by
                intro q hq
                obtain ⟨i, hi, rfl⟩ := List.mem_take_iff_getElem.1 hq
                exact ascN_before ps 0 b.mail.length HNK.out i n (by omega) hlt' (by omega)
              generalize ps[n] = p at p0 np1 np2 hst hbefore
              obtain ⟨k, rfl⟩ : ∃ k : Nat, p = (k : Int) + 1 := ⟨(p - 1).toNat, by omega⟩
              have hk : k < b.mail.length := by omega
              have hm := List.getElem?_eq_getElem hk
              rcases HMAIL.out with h0 | ⟨gm, off, rfl, hg, hcells⟩
              · exfalso; omega
              generalize b.mail[k] = m at hm
              obtain ⟨m0, m1, m2⟩ := hcells k _ hm
              have m1 := (hq.cell (p := ⟨gm, _, none⟩) hg).trans m1
              have hmk := HBK.out m (List.mem_of_getElem? hm)
              have hfl := mok_flags hmk
              have hold : (flagAll how o b.mail (ps.take n))[k]? = some m := by
                rw [flagAll_get how o (ps.take n) b.mail 0 b.mail.length (Int.le_refl _) (ascN_take HNK.out n) k m hm, if_neg (fun hmem => by have := hbefore _ hmem; omega)]
              have hnew : flagAll how o b.mail (ps.take (n + 1)) = (flagAll how o b.mail (ps.take n)).set k { m with flags := changed m.flags how o } := by
                have e : ((k : Int) + 1).toNat - 1 = k := by omega
                rw [hst, flagAll_snoc, flagAt_set (m := m) (by rw [e]; exact hold), e]
              have hCh := Lib.hid (fun W : World => l4Change_any m.flags how o hfl HFK.out HHK.out W)
              have hchg : ((chg how m.flags.toNat o.toNat : Nat) : Int) = changed m.flags how o := by unfold changed; rw [if_pos]; simp [hfl, HFK.out, HHK.out]
              have HNEW := Lib.hid hnew; have HOLD := Lib.hid hold; have HCHG := Lib.hid hchg
              have hnI : (n : Int) < (N : Int) := by omega
              have hkI : (k : Int) < (b.mail.length : Int) := by omega
              have hk0 : (0 : Int) ≤ (k : Int) := Int.natCast_nonneg _
              obtain ⟨r1, r2, r3, cur, r4⟩ := HO.out.row
              have R4 := Lib.hid r4
              clear hcells hpc hm hst hbefore hfl hmk hold hnew hchg m0 m2 r3 r4
              have hlen : (flagAll how o b.mail (ps.take n)).length = b.mail.length := flagAll_len _ _ _ _
              have HLEN := Lib.hid hlen
              obtain ⟨_, _, i0, i1, i2, i3⟩ := HO.out.at (i := k) (by rw [hlen]; exact hk)
              have n1 : ¬ (w4.heap.size = g) ∧ ¬ (g = w4.heap.size) := by omega
              have n2 : ¬ (w.heap.size = g) ∧ ¬ (g = w.heap.size) := by omega
              have n3 : ¬ (gm = g) ∧ ¬ (g = gm) := by omega
              have x1 : IntKind.i64.wrap ((k : Int) + 1 - 1) = (k : Int) := by rw [show (k : Int) + 1 - 1 = (k : Int) from by omega]; exact IntWalk.i64_in _ (by omega)
              have x2 : IntKind.i64.wrap (k : Int) = (k : Int) := IntWalk.i64_in _ (by omega)
              clear hlen
              go_upto_region 8 with fail
              clear x1 x2 p0
              go_region_held3 (fun W => W.cell? ⟨w4.heap.size, 1, none⟩ = some (.slice (some ⟨g, 0, none⟩) b.mail.length cap4) ∧ W.cell? ⟨w.heap.size, 1, none⟩ = some (.slice (some ⟨gm, off, none⟩) b.mail.length cap) ∧ W.cell? ⟨gm, off + k * 3 + 1, none⟩ = some (.int .i64 m.flags)) (first | exact ⟨d1, c1, m1⟩ | (go_keep; done))
                ((go_at_call 62; refine (hCh.out _).mono ?_; rintro e w6 ⟨rfl, q6⟩; rw [HCHG.out]; have b6 : Below wr.heap.size wr w6 := Below.trans (by go_grown) q6;
                  have k0 := (b6.block _ (by omega)).trans K0.out; have x0 := (b6.block _ zq).trans X0.out; have k1 := (b6.block _ (by omega)).trans K1.out; have ho6 := HO.out.below b6;
                  obtain ⟨c0, c1, f0, f1⟩ := two_cells k0; obtain ⟨d0, d1, e0, e1⟩ := two_cells x0; have m1 := (b6.cell (p := ⟨gm, _, none⟩) (Nat.lt_of_lt_of_le hg hq.size)).trans m1;
                  obtain ⟨_, _, i0, i1, i2, i3⟩ := ho6.at (i := k) (by rw [HLEN.out]; exact hk); have HO6 := Lib.hid ho6; have X6 := Lib.hid x0; have K06 := Lib.hid k0; have K16 := Lib.hid k1; have z6 := b6.size; clear q6 k0 x0 k1 ho6))
              have q7 : Below w.heap.size w (w6.setCell ⟨g, k * 3 + 1, none⟩ (.int .i64 (changed m.flags how o))) := (hq.trans (b6.mono hq.size)).setCell (by show _ ≤ g; omega) _
              have ho7 := HO6.out.put (l' := flagAll how o b.mail (ps.take (n + 1))) (by rw [HLEN.out]) (by rw [flagAll_len, flagAll_len]) (j := k * 3 + 1) (by rw [HLEN.out]; omega) (.int .i64 (changed m.flags how o)) (by rw [HNEW.out]; exact ((rowOf_set _ k m HOLD.out).2 _).symm)
              have x7 := (set_off (o := k * 3 + 1) (u := .int .i64 (changed m.flags how o)) (show w4.heap.size ≠ g by omega)).trans X6.out
              have k07 := (set_off (o := k * 3 + 1) (u := .int .i64 (changed m.flags how o)) (show w.heap.size ≠ g by omega)).trans K06.out
              have k17 := (set_off (o := k * 3 + 1) (u := .int .i64 (changed m.flags how o)) (show w.heap.size + 1 ≠ g by omega)).trans K16.out
              have HO7 := Lib.hid ho7; have X7 := Lib.hid x7; have K07 := Lib.hid k07; have K17 := Lib.hid k17
              clear ho7 x7 k07 k17 HO6 X6 K06 K16
              go_wp2_with fail
              go_roundg (gk - 1)
              case measure => omega
              case rel => exact ⟨n + 1, by omega, by go_num, HO7.out, q7, X7.out, K07.out, K17.out⟩
            · have hnn : n = N := by omega
              subst hnn
              have hA : flagAll how o b.mail (ps.take n) = flagAll how o b.mail ps := by rw [← HN.out, List.take_length]
              have HA := Lib.hid hA
              obtain ⟨c2, c3, f2, f3⟩ := two_cells K1.out
              have z2 := lt_of_block K1.out
              clear hA
              go_wp2_with fail
              refine bodyPost_ret (v := .tuple #[.agg #[.int .i64 b.next, .slice (some ⟨g, 0, none⟩) b.mail.length cap4], .bool true]) (by simp [results, Try.results29, go_sem, *]) rfl ⟨_, by rw [HR.out], ?_, ?_⟩
              · rw [HR.out]
                have := HO.out
                rw [HA.out] at this
                exact ((this.setLow (by show w.heap.size + 1 < w3.heap.size; omega) _).setLow (by show w.heap.size + 1 < w3.heap.size; omega) _).more (by omega)
              · exact (hq.setCell (by show w.heap.size ≤ w.heap.size + 1; omega) _).setCell (by show w.heap.size ≤ w.heap.size + 1; omega) _
end Go.Proofs.Ytjcfjhimfbglhaa

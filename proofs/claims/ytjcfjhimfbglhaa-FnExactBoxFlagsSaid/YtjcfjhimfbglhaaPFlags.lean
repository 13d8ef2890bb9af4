/- WALKS: the program changes the flags of some messages: in the nodes of a list. -/
import Derived.Test.YtjcfjhimfbglhaaSFlags
import Derived.Test.YtjcfjhimfbglhaaBoxApp
import Derived.Test.YtjcfjhimfbglhaaLink
namespace Go.Proofs.Ytjcfjhimfbglhaa
open Go.RowKit
set_option linter.unusedVariables false

theorem Lst.flags {w : World} {B g i k : Nat} {ns : List Nat} {l : List M} {m : M} (h : Lst w B g ns l) (hk : ns[i]? = some k) (hm : l[i]? = some m) (f : Int) : Lst (w.setCell ⟨k, 1, none⟩ (.int .i64 f)) B g ns (l.set i { m with flags := f }) := by
  have hg : g ≠ k := fun e => h.gnot (e ▸ List.mem_of_getElem? hk)
  exact ⟨by rw [set_off hg, List.length_set]; exact h.head, h.nodes.flags hk hm f, h.low⟩
theorem changed_zero (how o : Int) : (0 ≤ changed 0 how o) ↔ (hok how = true ∧ fok o = true) := by
  unfold changed
  constructor
  · intro h
    split at h
    · next hc => simp at hc; exact ⟨hc.2, hc.1.2⟩
    · omega
  · rintro ⟨h1, h2⟩
    have h3 : fok 0 = true := rfl
    rw [if_pos (by rw [h1, h2, h3]; rfl)]
    omega
set_option maxHeartbeats 2000000 in
theorem implBoxFlags_any (b : B) (ps : List Int) (how o : Int) (v vp : Value) (w : World) (hb : BoxAt w v b) (hp : IntsAt w vp ps) :
    Calls Try.prog 28 #[v, vp, .int .i64 how, .int .i64 o] w fun e w' => ∃ s, e = .returned (.tuple #[.agg #[.int .i64 (flagsTo b ps how o).1.next, s], .bool (flagsTo b ps how o).2]) ∧ Own w' w.heap.size s (flagsTo b ps how o).1.mail ∧ Below w.heap.size w w' := by
  have hb' := hb
  have hp' := hp
  obtain ⟨s, rfl, a, L, cap, rfl, rfl, hcap, ⟨hmax, hnil⟩, hmail⟩ := hb
  obtain ⟨ap, N, capp, rfl, hN, hcp, _, hints⟩ := hp
  obtain ⟨w1, hw1⟩ : ∃ w1, w1 = (w.alloc (.cells #[.int .i64 b.next, .slice a b.mail.length cap] 29)).alloc (.cells #[.int .i64 0, .slice none 0 0] 29) := ⟨_, rfl⟩
  have bel1 : Below w.heap.size w w1 := by rw [hw1]; go_grown
  have h0 : w1.heap[w.heap.size]? = some (.cells #[.int .i64 b.next, .slice a b.mail.length cap] 29 (0, 0)) := by
    rw [hw1, Below.heap_alloc _ _ _ (by simp)]; exact heap_alloc_new w _
  have h1 : w1.heap[w.heap.size + 1]? = some (.cells #[.int .i64 0, .slice none 0 0] 29 (0, 0)) := by
    rw [hw1]; have := heap_alloc_new (w.alloc (.cells #[.int .i64 b.next, .slice a b.mail.length cap] 29)) (.cells #[.int .i64 0, .slice none 0 0] 29); simpa using this
  have hsz : w.heap.size + 2 ≤ w1.heap.size := by rw [hw1]; simp
  have HW := Lib.hid hw1; have HB := Lib.hid hb'; have HP := Lib.hid hp'; have HN := Lib.hid hN
  have HINTS := Lib.hid hints
  have G0 := Lib.hid h0; have G1 := Lib.hid h1
  have hz := changed_zero how o
  obtain ⟨z, hzz⟩ : ∃ z, changed 0 how o = z := ⟨_, rfl⟩
  rw [hzz] at hz
  have HZ := Lib.hid hz; have HZZ := Lib.hid hzz
  have fin : (bok b = false ∨ numsOk b.mail.length ps = false ∨ hok how = false ∨ fok o = false) → ∀ W, Below w.heap.size w W → Own W w.heap.size (.slice none 0 0) (flagsTo b ps how o).1.mail ∧ Below w.heap.size w W ∧ flagsTo b ps how o = (nobox, false) := by
    intro hno W hW
    rw [flagsTo_no hno]
    exact ⟨World.ownsRow_nil _ _ _ _, hW, rfl⟩
  have HF := Lib.hid fin
  clear hb' hp' hnil hmail hw1 hN hints h0 h1 hz hzz fin
  go_enter Try.func28, Try.ntmps28
  go_wp2_with fail
  rw [← HW.out]
  refine (implFlagsChange_any 0 how o _).mono ?_
  rintro e w2 ⟨rfl, q2⟩
  rw [HZZ.out]
  have g0 := (q2.block _ (by omega)).trans G0.out
  have g1 := (q2.block _ (by omega)).trans G1.out
  have bel2 := bel1.trans (q2.mono bel1.size)
  have z1 : w.heap.size + 1 < w2.heap.size := by have := q2.size; omega
  clear bel1 q2 HW G0 G1
  obtain ⟨c0, c1, f0, f1⟩ := two_cells g0
  obtain ⟨c2, c3, f2, f3⟩ := two_cells g1
  by_cases hz0 : 0 ≤ z
  · obtain ⟨hhk, hfk⟩ := HZ.out.1 hz0
    have K := implBoxValid_any b (.agg #[.int .i64 b.next, .slice a b.mail.length cap]) w2 (HB.out.below bel2)
    have HK := Lib.hid K
    have G0 := Lib.hid g0; have G1 := Lib.hid g1
    clear K g0 g1
    go_wp2_with fail
    refine HK.out.mono ?_
    rintro e w3 ⟨rfl, q3⟩
    have bel3 := bel2.trans (q3.mono bel2.size)
    have g0 := (q3.block _ (by omega)).trans G0.out
    have g1 := (q3.block _ (by omega)).trans G1.out
    have z3 := q3.size
    clear c0 c1 c2 c3 f0 f1 f2 f3 HK q3 G0 G1
    obtain ⟨c0, c1, f0, f1⟩ := two_cells g0
    obtain ⟨c2, c3, f2, f3⟩ := two_cells g1
    rcases hbk : bok b with _ | _
    · clear g0 g1
      go_wp2_with fail
      refine bodyPost_ret (v := .tuple #[.agg #[.int .i64 0, .slice none 0 0], .bool false]) (by simp [results, Try.results28, go_sem, *]) rfl ?_
      have k := HF.out (.inl hbk) ((w3.setCell ⟨w.heap.size + 1, 0, none⟩ (.int .i64 0)).setCell ⟨w.heap.size + 1, 1, none⟩ (.slice none 0 0)) (by go_grown)
      exact ⟨_, by rw [k.2.2]; rfl, k.1, k.2.1⟩
    · obtain ⟨hn0, hn1, hl10⟩ := bok_next hbk
      have G0 := Lib.hid g0; have G1 := Lib.hid g1
      have K := placesValid_any ps b.mail.length (.slice ap N capp) w3 (HP.out.below bel3) (by omega)
      have HK := Lib.hid K
      clear K g0 g1
      go_wp2_with fail
      refine HK.out.mono ?_
      rintro e w' ⟨rfl, rfl⟩
      clear HK
      rcases hnk : numsOk b.mail.length ps with _ | _
      · clear G0 G1
        go_wp2_with fail
        refine bodyPost_ret (v := .tuple #[.agg #[.int .i64 0, .slice none 0 0], .bool false]) (by simp [results, Try.results28, go_sem, *]) rfl ?_
        have k := HF.out (.inr (.inl hnk)) ((w3.setCell ⟨w.heap.size + 1, 0, none⟩ (.int .i64 0)).setCell ⟨w.heap.size + 1, 1, none⟩ (.slice none 0 0)) (by go_grown)
        exact ⟨_, by rw [k.2.2]; rfl, k.1, k.2.1⟩
      · have hr := flagsTo_yes (b := b) (ps := ps) hbk hnk hhk hfk
        have HR := Lib.hid hr
        have HNK := Lib.hid hnk
        obtain ⟨s, hs, hm⟩ := HB.out.below bel3
        have hs : Value.slice a b.mail.length cap = s := by simpa using hs
        subst hs
        have K := mailLink_any b.mail _ w3 hm (by omega)
        have HK := Lib.hid K
        clear hr K HF HB hnk hbk hhk hm hz0 HZ HZZ
        go_wp2_with fail
        refine HK.out.mono ?_
        rintro e w4 ⟨g, ns, rfl, hL, q4⟩
        have bel4 := bel3.trans (q4.mono bel3.size)
        have k0 := (q4.block _ (by omega)).trans G0.out
        have k1 := (q4.block _ (by omega)).trans G1.out
        have z4 := q4.size
        obtain ⟨y0, y1, y2, y3, y4, y5⟩ := three_cells hL.head
        have hnl : ns.length = b.mail.length := hL.nodes.len
        have HL := Lib.hid hL; have K0 := Lib.hid k0; have K1 := Lib.hid k1; have HNL := Lib.hid hnl
        clear c0 c1 c2 c3 f0 f1 f2 f3 HK q4 hL k0 k1 G0 G1 y1 y2 y3 y4 y5 hnl
        go_wp2_with fail
        go_loopg [12, 13, 45] N (fun gk nd at_ i wr => ∃ n t : Nat, n + gk = N ∧ 1 ≤ t ∧ t ≤ 11 ∧ i = .int .i64 n ∧ at_ = .int .i64 t ∧ nd = .pointer (addr? ns[t - 1]?) ∧ Hid (∀ j, n ≤ j → ∀ h : j < ps.length, (t : Int) ≤ ps[j]) ∧ Hid (Lst wr w3.heap.size g ns (flagAll how o b.mail (ps.take n))) ∧ Below w3.heap.size w4 wr)
        case atStart => exact ⟨0, 1, by omega, by omega, by omega, rfl, rfl, rfl, (fun j _ h => by have := ascN_mem _ _ _ HNK.out ps[j] (List.getElem_mem h); omega), HL.out, Below.refl _ _⟩
        case round =>
          clear y0
          obtain ⟨n, t, hn, ht1, ht11, rfl, rfl, rfl, HT, HLst, hq⟩ := hrel
          by_cases hlt : n < N
          · rcases HINTS.out with h0 | ⟨gp, offp, rfl, hgp, hpc⟩
            · exfalso; omega
            have hq4 := bel4.trans (hq.mono (by omega))
            have hlt' : n < ps.length := by rw [HN.out]; exact hlt
            have p0 := (hq4.cell (p := ⟨gp, _, none⟩) hgp).trans (hpc n _ (List.getElem?_eq_getElem hlt'))
            obtain ⟨np1, np2, _⟩ := ascN_drop ps 0 b.mail.length n HNK.out hlt'
            have htp := HT.out n (Nat.le_refl _) hlt'
            have hst : ps.take (n + 1) = ps.take n ++ [ps[n]] := List.take_succ_eq_append_getElem hlt'
            have hbefore : ∀ q ∈ ps.take n, q < ps[n] := by
              intro q hq
              obtain ⟨i, hi, rfl⟩ := List.mem_take_iff_getElem.1 hq
              exact ascN_before ps 0 b.mail.length HNK.out i n (by omega) hlt' (by omega)
            have hafter : ∀ j, n + 1 ≤ j → ∀ h : j < ps.length, ps[n] ≤ ps[j] := fun j hj h => by
              have := ascN_before ps 0 b.mail.length HNK.out n j hlt' h (by omega); omega
            generalize ps[n] = p at p0 np1 np2 htp hst hbefore hafter
            obtain ⟨k, rfl⟩ : ∃ k : Nat, p = (k : Int) + 1 := ⟨(p - 1).toNat, by omega⟩
            have hk : k < b.mail.length := by omega
            have hm := List.getElem?_eq_getElem hk
            generalize b.mail[k] = m at hm
            have hold : (flagAll how o b.mail (ps.take n))[k]? = some m := by
              rw [flagAll_get how o (ps.take n) b.mail 0 b.mail.length (Int.le_refl _) (ascN_take HNK.out n) k m hm, if_neg (fun hmem => by have := hbefore _ hmem; omega)]
            have hnew : flagAll how o b.mail (ps.take (n + 1)) = (flagAll how o b.mail (ps.take n)).set k { m with flags := changed m.flags how o } := by
              have e : ((k : Int) + 1).toNat - 1 = k := by omega
              rw [hst, flagAll_snoc, flagAt_set (m := m) (by rw [e]; exact hold), e]
            have HNEW := Lib.hid hnew; have HOLD := Lib.hid hold; have HAFT := Lib.hid hafter
            have hnI : (n : Int) < (N : Int) := by omega
            have htk : t ≤ k + 1 := by omega
            have hkn : k < ns.length := by rw [HNL.out]; exact hk
            have HKN := Lib.hid (List.getElem?_eq_getElem hkn)
            obtain ⟨nk, hnk⟩ : ∃ nk, ns[k] = nk := ⟨_, rfl⟩
            rw [hnk] at HKN
            obtain ⟨go, hgo⟩ : ∃ go : Nat, go = gk := ⟨_, rfl⟩
            have HGO := Lib.hid hgo
            clear hgo
            obtain ⟨wo, hwo⟩ : ∃ wo : World, wo = wr := ⟨_, rfl⟩
            subst hwo
            clear hpc hm hst hbefore hold hnew htp hafter HT hnk
            go_wp2_with fail
            go_loopg [12, 13] (k + 1 - t) (fun gj nd at_ wr => wr = wo ∧ ∃ t' : Nat, 1 ≤ t' ∧ t' + gj = k + 1 ∧ at_ = .int .i64 t' ∧ nd = .pointer (addr? ns[t' - 1]?))
            case atStart => exact ⟨rfl, t, ht1, by omega, rfl, rfl⟩
            case round =>
              obtain ⟨hwr, t', ht', hj', rfl, rfl⟩ := hrel
              subst hwr
              by_cases hlt2 : t' < k + 1
              · have hi1 : t' - 1 < ns.length := by omega
                have hll : (flagAll how o b.mail (ps.take n)).length = b.mail.length := flagAll_len _ _ _ _
                have hm' := List.getElem?_eq_getElem (l := flagAll how o b.mail (ps.take n)) (i := t' - 1) (by rw [hll]; omega)
                have hn' := List.getElem?_eq_getElem hi1
                obtain ⟨nd, hnd⟩ : ∃ nd, ns[t' - 1] = nd := ⟨_, rfl⟩
                rw [hnd] at hn'
                obtain ⟨d0, d1, d2, d3, e1, e3⟩ := HLst.out.nodes.cells hn' hm'
                rw [show t' - 1 + 1 = t' from by omega] at d3
                rw [hn', addr_some]
                have hI : (t' : Int) < (k : Int) + 1 := by omega
                clear hm' hn' hnd hll d0 d1 d2 e1
                go_wp2_with fail
                go_roundg (gk - 1)
                case measure => omega
                case rel => exact ⟨rfl, t' + 1, by omega, by omega, by go_num, by rw [show t' + 1 - 1 = t' from by omega]⟩
              · obtain rfl : t' = k + 1 := by omega
                obtain ⟨d0, d1, d2, d3, e1, e3⟩ := HLst.out.nodes.cells HKN.out HOLD.out
                rw [show k + 1 - 1 = k from by omega, HKN.out, addr_some]
                clear d0 d2 d3 e1 e3
                go_wp2_with fail
                refine (implFlagsChange_any m.flags how o _).mono ?_
                rintro e w5 ⟨rfl, q5⟩
                have hL5 := HLst.out.below q5
                obtain ⟨d0, d1, d2, d3, e1, e3⟩ := hL5.nodes.cells HKN.out HOLD.out
                have hL6 := hL5.flags HKN.out HOLD.out (changed m.flags how o)
                rw [← HNEW.out] at hL6
                have hlow := hL5.nodes.low nk (List.mem_of_getElem? HKN.out)
                have q6 : Below w3.heap.size w4 (w5.setCell ⟨nk, 1, none⟩ (.int .i64 (changed m.flags how o))) := (hq.trans (q5.mono (by have := hq.size; omega))).setCell (by show _ ≤ nk; exact hlow) _
                have HL6 := Lib.hid hL6
                clear hL5 hL6 q5 d0 d2 d3 e3 hlow p0
                go_wp2_with fail
                go_roundg (go - 1)
                case measure => have := HGO.out; omega
                case rel => exact ⟨n + 1, k + 1, by have := HGO.out; omega, by omega, by omega, by go_num, by go_num, by rw [show k + 1 - 1 = k from by omega, HKN.out, addr_some], (fun j hj h => by have := HAFT.out j hj h; omega), HL6.out, q6⟩
          · have hnn : n = N := by omega
            subst hnn
            have hA : flagAll how o b.mail (ps.take n) = flagAll how o b.mail ps := by rw [← HN.out, List.take_length]
            have hL2 := HLst.out
            rw [hA] at hL2
            have hlen : (flagAll how o b.mail ps).length = b.mail.length := flagAll_len _ _ _ _
            have KS := fun (W : World) (hW : Below wr.heap.size wr W) => slice_any w3.heap.size g (flagAll how o b.mail ps).length _ ns (flagAll how o b.mail ps) W ((hL2.below hW).head) ((hL2.below hW).nodes) (by rw [hlen]; omega) (by rw [hlen]; omega)
            rw [hlen] at KS
            have HKS := Lib.hid KS; have HLEN := Lib.hid hlen
            have hq4 := bel4.trans (hq.mono (by omega))
            have k0 := (hq.block _ (by omega)).trans K0.out
            have k1 := (hq.block _ (by omega)).trans K1.out
            obtain ⟨c0, c1, f0, f1⟩ := two_cells k0
            have zr := lt_of_block k1
            have K0' := Lib.hid k0; have K1' := Lib.hid k1
            clear hA hL2 hlen KS k0 k1
            go_wp2_with fail
            go_region_held3 (fun W => W.cell? ⟨w.heap.size, 0, none⟩ = some (.int .i64 b.next)) (first | exact c0 | (go_keep; done))
              ((go_at_call 53; refine (HKS.out _ (by first | exact Below.refl _ _ | exact (Below.refl _ _).drew)).mono ?_; rintro e w5 ⟨g5, cap5, rfl, ho, q5⟩;
                have k0 := (q5.block w.heap.size (by show _ < wr.heap.size; omega)).trans K0'.out; have k1 := (q5.block (w.heap.size + 1) (by show _ < wr.heap.size; omega)).trans K1'.out;
                have bel5 : Below w.heap.size w w5 := Below.trans (by first | exact hq4 | exact hq4.drew) (q5.mono (by show _ ≤ wr.heap.size; omega));
                obtain ⟨c0, c1, f0, f1⟩ := two_cells k0; obtain ⟨c2, c3, f2, f3⟩ := two_cells k1; have s5 := lt_of_block k1; have HO := Lib.hid ho; clear k0 k1 ho q5))
            go_wp2_with fail
            refine bodyPost_ret (v := .tuple #[.agg #[.int .i64 b.next, .slice (some ⟨g5, 0, none⟩) b.mail.length cap5], .bool true]) (by simp [results, Try.results28, go_sem, *]) rfl ⟨.slice (some ⟨g5, 0, none⟩) b.mail.length cap5, by rw [HR.out], ?_, ?_⟩
            · rw [HR.out]
              have h := HO.out
              exact ((h.setLow (by show w.heap.size + 1 < wr.heap.size; omega) _).setLow (by show w.heap.size + 1 < wr.heap.size; omega) _).more (by show _ ≤ wr.heap.size; omega)
            · exact (bel5.setCell (by show w.heap.size ≤ w.heap.size + 1; omega) _).setCell (by show w.heap.size ≤ w.heap.size + 1; omega) _
  · have hno : hok how = false ∨ fok o = false := by
      rcases hh : hok how with _ | _
      · exact .inl rfl
      · rcases hf : fok o with _ | _
        · exact .inr rfl
        · exact absurd (HZ.out.2 ⟨hh, hf⟩) hz0
    have HNO := Lib.hid hno
    clear g0 g1 hno
    go_wp2_with fail
    refine bodyPost_ret (v := .tuple #[.agg #[.int .i64 0, .slice none 0 0], .bool false]) (by simp [results, Try.results28, go_sem, *]) rfl ?_
    have k := HF.out (.inr (.inr HNO.out)) ((w2.setCell ⟨w.heap.size + 1, 0, none⟩ (.int .i64 0)).setCell ⟨w.heap.size + 1, 1, none⟩ (.slice none 0 0)) (by go_grown)
    exact ⟨_, by rw [k.2.2]; rfl, k.1, k.2.1⟩
end Go.Proofs.Ytjcfjhimfbglhaa

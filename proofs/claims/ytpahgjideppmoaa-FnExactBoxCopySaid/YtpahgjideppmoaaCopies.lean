/- WALKS: messages are copied to another mailbox, by the reference and by the program. -/
import Derived.Test.YtpahgjideppmoaaNums
import Derived.Test.YtpahgjideppmoaaBoxCell
import Derived.Test.YtpahgjideppmoaaAppend
import Derived.Deep.RegionHeld3
import Derived.Deep.DeepCutAuto
import Derived.Deep.LoopGhost
import Derived.IntWalk
namespace Go.Proofs.Ytpahgjideppmoaa
open Go.RowKit
set_option linter.unusedVariables false

theorem copyTo_no {b tb : B} {ps : List Int} (h : bok b = false ∨ bok tb = false ∨ numsOk b.mail.length ps = false) : copyTo b ps tb = (nobox, false) := by
  unfold copyTo; rw [if_neg]
  rcases h with h | h | h <;> simp [h]
theorem copyTo_yes {b tb : B} {ps : List Int} (h1 : bok b = true) (h2 : bok tb = true) (h3 : numsOk b.mail.length ps = true) : copyTo b ps tb = (if (copyRun b ps tb).2 then copyRun b ps tb else (tb, false)) := by
  unfold copyTo; rw [if_pos]; simp [h1, h2, h3]
theorem copyRun_step {b tb : B} {ps : List Int} {n k : Nat} {m : M} (hn : n < ps.length) (hp : ps[n] = (k : Int) + 1) (hm : b.mail[k]? = some m) (h2 : (copyRun b (ps.take n) tb).2 = true) :
    copyRun b (ps.take (n + 1)) tb = addTo (copyRun b (ps.take n) tb).1 m.flags m.text := by
  rw [List.take_succ_eq_append_getElem hn, copyRun_snoc, hp]
  unfold copyStep
  rw [h2, show ((k : Int) + 1).toNat - 1 = k from by omega, hm]
  rfl
/-- A mailbox's variable gets another mailbox. -/
theorem BoxCell.store {w : World} {k base base' : Nat} {b b' : B} {a a' : Option Addr} {cap cap' : Nat} (h : BoxCell w k base b a cap) (ho : Own w base' (.slice a' b'.mail.length cap') b'.mail) (hl : b'.mail.length ≤ 4398046511104) :
    BoxCell ((w.setCell ⟨k, 0, none⟩ (.int .i64 b'.next)).setCell ⟨k, 1, none⟩ (.slice a' b'.mail.length cap')) k base' b' a' cap' :=
  ⟨set_one (set_zero h.block), (ho.box h.block _ _).box (set_zero h.block) _ _, hl⟩
set_option maxHeartbeats 2000000 in
theorem specBoxCopy_any (b tb : B) (ps : List Int) (v vp vt : Value) (w : World) (hb : BoxAt w v b) (hp : IntsAt w vp ps) (ht : BoxAt w vt tb) :
    Calls Try.prog 6 #[v, vp, vt] w fun e w' => ∃ s, e = .returned (.tuple #[.agg #[.int .i64 (copyTo b ps tb).1.next, s], .bool (copyTo b ps tb).2]) ∧ Own w' w.heap.size s (copyTo b ps tb).1.mail ∧ Below w.heap.size w w' := by
  have hb' := hb
  have hp' := hp
  have ht' := ht
  obtain ⟨s, rfl, a, L, cap, rfl, rfl, hcap, ⟨hmax, hnil⟩, hmail⟩ := hb
  obtain ⟨ap, N, capp, rfl, hN, hcp, _, hints⟩ := hp
  obtain ⟨st, rfl, at_, Lt, capt, rfl, rfl, hcapt, _, _⟩ := ht
  obtain ⟨w1, hw1⟩ : ∃ w1, w1 = ((w.alloc (.cells #[.int .i64 b.next, .slice a b.mail.length cap] 29)).alloc (.cells #[.int .i64 tb.next, .slice at_ tb.mail.length capt] 29)).alloc (.cells #[.int .i64 0, .slice none 0 0] 29) := ⟨_, rfl⟩
  have bel1 : Below w.heap.size w w1 := by rw [hw1]; go_grown
  have x0 : w1.heap[w.heap.size]? = some (.cells #[.int .i64 b.next, .slice a b.mail.length cap] 29 (0, 0)) := by
    rw [hw1, Below.heap_alloc _ _ _ (by simp; omega), Below.heap_alloc _ _ _ (by simp)]; exact heap_alloc_new w _
  have x1 : w1.heap[w.heap.size + 1]? = some (.cells #[.int .i64 tb.next, .slice at_ tb.mail.length capt] 29 (0, 0)) := by
    rw [hw1, Below.heap_alloc _ _ _ (by simp)]; have := heap_alloc_new (w.alloc (.cells #[.int .i64 b.next, .slice a b.mail.length cap] 29)) (.cells #[.int .i64 tb.next, .slice at_ tb.mail.length capt] 29); simpa using this
  have x2 : w1.heap[w.heap.size + 2]? = some (.cells #[.int .i64 0, .slice none 0 0] 29 (0, 0)) := by
    rw [hw1]; have := heap_alloc_new ((w.alloc (.cells #[.int .i64 b.next, .slice a b.mail.length cap] 29)).alloc (.cells #[.int .i64 tb.next, .slice at_ tb.mail.length capt] 29)) (.cells #[.int .i64 0, .slice none 0 0] 29); simpa using this
  have hsz : w.heap.size + 3 ≤ w1.heap.size := by rw [hw1]; simp
  have HW := Lib.hid hw1
  have K := specBoxValid_any b (.agg #[.int .i64 b.next, .slice a b.mail.length cap]) w1 (hb'.below bel1)
  have HK := Lib.hid K; have HB := Lib.hid hb'; have HP := Lib.hid hp'; have HT := Lib.hid ht'; have HN := Lib.hid hN
  have HMAIL := Lib.hid hmail; have HINTS := Lib.hid hints
  have fin : (bok b = false ∨ bok tb = false ∨ numsOk b.mail.length ps = false) → ∀ W, Below w.heap.size w W → Own W w.heap.size (.slice none 0 0) (copyTo b ps tb).1.mail ∧ Below w.heap.size w W ∧ copyTo b ps tb = (nobox, false) := by
    intro hno W hW
    rw [copyTo_no hno]
    exact ⟨World.ownsRow_nil _ _ _ _, hW, rfl⟩
  have HF := Lib.hid fin
  clear hb' hp' ht' hnil hmail hw1 K hN hints fin
  go_enter Try.func6, Try.ntmps6
  go_wp2_with fail
  rw [← HW.out]
  refine HK.out.mono ?_
  rintro e w2 ⟨rfl, q2⟩
  replace x0 := (q2.block _ (by omega)).trans x0
  replace x1 := (q2.block _ (by omega)).trans x1
  replace x2 := (q2.block _ (by omega)).trans x2
  have bel2 := bel1.trans (q2.mono bel1.size)
  have z2 : w.heap.size + 2 < w2.heap.size := by have := q2.size; omega
  clear bel1 q2 HK HW
  obtain ⟨c0, c1, f0, f1⟩ := two_cells x0
  obtain ⟨c2, c3, f2, f3⟩ := two_cells x1
  obtain ⟨c4, c5, f4, f5⟩ := two_cells x2
  rcases hbk : bok b with _ | _
  · clear x0 x1 x2
    go_wp2_with fail
    refine bodyPost_ret (v := .tuple #[.agg #[.int .i64 0, .slice none 0 0], .bool false]) (by simp [results, Try.results6, go_sem, *]) rfl ?_
    have k := HF.out (.inl hbk) ((w2.setCell ⟨w.heap.size + 2, 0, none⟩ (.int .i64 0)).setCell ⟨w.heap.size + 2, 1, none⟩ (.slice none 0 0)) (by go_grown)
    exact ⟨_, by rw [k.2.2]; rfl, k.1, k.2.1⟩
  have K := specBoxValid_any tb (.agg #[.int .i64 tb.next, .slice at_ tb.mail.length capt]) w2 (HT.out.below bel2)
  have HK := Lib.hid K
  have X0 := Lib.hid x0; have X1 := Lib.hid x1; have X2 := Lib.hid x2
  clear K x0 x1 x2
  go_wp2_with fail
  refine HK.out.mono ?_
  rintro e w3 ⟨rfl, q3⟩
  have bel3 := bel2.trans (q3.mono bel2.size)
  have x0 := (q3.block _ (by omega)).trans X0.out
  have x1 := (q3.block _ (by omega)).trans X1.out
  have x2 := (q3.block _ (by omega)).trans X2.out
  have z3 := q3.size
  clear c0 c1 c2 c3 c4 c5 f0 f1 f2 f3 f4 f5 HK q3 X0 X1 X2
  obtain ⟨c0, c1, f0, f1⟩ := two_cells x0
  obtain ⟨c2, c3, f2, f3⟩ := two_cells x1
  obtain ⟨c4, c5, f4, f5⟩ := two_cells x2
  rcases htk : bok tb with _ | _
  · clear x0 x1 x2
    go_wp2_with fail
    refine bodyPost_ret (v := .tuple #[.agg #[.int .i64 0, .slice none 0 0], .bool false]) (by simp [results, Try.results6, go_sem, *]) rfl ?_
    have k := HF.out (.inr (.inl htk)) ((w3.setCell ⟨w.heap.size + 2, 0, none⟩ (.int .i64 0)).setCell ⟨w.heap.size + 2, 1, none⟩ (.slice none 0 0)) (by go_grown)
    exact ⟨_, by rw [k.2.2]; rfl, k.1, k.2.1⟩
  · obtain ⟨hn0, hn1, hl10⟩ := bok_next hbk
    have K := l11Numbers_any b ps (.agg #[.int .i64 b.next, .slice a b.mail.length cap]) (.slice ap N capp) w3 (HB.out.below bel3) (HP.out.below bel3) (by omega)
    have HK := Lib.hid K
    have X0 := Lib.hid x0; have X1 := Lib.hid x1; have X2 := Lib.hid x2
    clear K x0 x1 x2
    go_wp2_with fail
    refine HK.out.mono ?_
    rintro e w4 ⟨rfl, q4⟩
    have bel4 := bel3.trans (q4.mono bel3.size)
    have x0 := (q4.block _ (by omega)).trans X0.out
    have x1 := (q4.block _ (by omega)).trans X1.out
    have x2 := (q4.block _ (by omega)).trans X2.out
    have z4 := q4.size
    clear c0 c1 c2 c3 c4 c5 f0 f1 f2 f3 f4 f5 HK X0 X1 X2
    obtain ⟨c0, c1, f0, f1⟩ := two_cells x0
    obtain ⟨c2, c3, f2, f3⟩ := two_cells x1
    obtain ⟨c4, c5, f4, f5⟩ := two_cells x2
    rcases hnk : numsOk b.mail.length ps with _ | _
    · clear x0 x1 x2
      go_wp2_with fail
      refine bodyPost_ret (v := .tuple #[.agg #[.int .i64 0, .slice none 0 0], .bool false]) (by simp [results, Try.results6, go_sem, *]) rfl ?_
      have k := HF.out (.inr (.inr hnk)) ((w4.setCell ⟨w.heap.size + 2, 0, none⟩ (.int .i64 0)).setCell ⟨w.heap.size + 2, 1, none⟩ (.slice none 0 0)) (by go_grown)
      exact ⟨_, by rw [k.2.2]; rfl, k.1, k.2.1⟩
    have hr := copyTo_yes hbk htk hnk
    have HR := Lib.hid hr
    have HNK := Lib.hid hnk; have HBK := Lib.hid hbk; have HTK := Lib.hid htk
    have K := l11Copy_at tb (.agg #[.int .i64 tb.next, .slice at_ tb.mail.length capt]) w4 (HT.out.below bel4)
    have HK := Lib.hid K
    have X0 := Lib.hid x0; have X1 := Lib.hid x1; have X2 := Lib.hid x2
    have hlt10 := (bok_next htk).2.2
    clear K x0 x1 x2 hr HF HB hnk hbk htk
    go_wp2_with fail
    refine HK.out.mono ?_
    rintro e w5 ⟨g, cap5, rfl, hc5, hg1, hg2, ho, q5⟩
    have bel5 := bel4.trans (q5.mono bel4.size)
    have z5 := q5.size
    obtain ⟨w6, hw6, C6, q6, s6⟩ := new_box (b := tb) ho (by omega)
    have bel6 := bel5.trans (q6.mono bel5.size)
    have x0 := (q6.block _ (by omega)).trans ((q5.block _ (by omega)).trans X0.out)
    have x1 := (q6.block _ (by omega)).trans ((q5.block _ (by omega)).trans X1.out)
    have x2 := (q6.block _ (by omega)).trans ((q5.block _ (by omega)).trans X2.out)
    have HW := Lib.hid hw6; have HC6 := Lib.hid C6
    clear X0 X1 X2
    have X0 := Lib.hid x0; have X1 := Lib.hid x1; have X2 := Lib.hid x2
    clear c0 c1 c2 c3 c4 c5 f0 f1 f2 f3 f4 f5 HK ho q5 hw6 C6 q6 x0 x1 x2
    go_wp2_with fail
    rw [← HW.out]
    clear HW
    go_loopg [9] N (fun gk i wr => ∃ (n : Nat) (C : B) (ac : Option Addr) (cc : Nat), n + gk = N ∧ i = .int .i64 n ∧ Hid (copyRun b (ps.take n) tb = (C, true)) ∧ Hid (BoxCell wr w5.heap.size w4.heap.size C ac cc) ∧ Below w.heap.size w wr ∧ Hid (wr.heap[w.heap.size]? = some (.cells #[.int .i64 b.next, .slice a b.mail.length cap] 29 (0, 0))) ∧
      Hid (wr.heap[w.heap.size + 1]? = some (.cells #[.int .i64 tb.next, .slice at_ tb.mail.length capt] 29 (0, 0))) ∧ Hid (wr.heap[w.heap.size + 2]? = some (.cells #[.int .i64 0, .slice none 0 0] 29 (0, 0))))
    case atStart => exact ⟨0, tb, _, _, by omega, rfl, rfl, HC6.out, bel6, X0.out, X1.out, X2.out⟩
    case round =>
      clear HC6 bel6 X0 X1 X2
      obtain ⟨n, C, ac, cc, hn, rfl, HRUN, HC, hq, X0, X1, X2⟩ := hrel
      have hCb : bok C = true := by
        have := copyRun_ok HBK.out (ps.take n) (tb, true) HTK.out
        have e : (ps.take n).foldl (copyStep b) (tb, true) = (C, true) := HRUN.out
        rw [e] at this; exact this
      obtain ⟨hC1, hC2, hC3⟩ := bok_next hCb
      have HCB := Lib.hid hCb
      obtain ⟨c0, c1, f0, f1⟩ := two_cells X0.out
      obtain ⟨d0, d1, e0, e1⟩ := HC.out.cells
      have zc := HC.out.lt
      have zq := hq.size
      clear hCb
      by_cases hlt : n < N
      · rcases HINTS.out with h0 | ⟨gp, offp, rfl, hgp, hpc⟩
        · exfalso; omega
        have hlt' : n < ps.length := by rw [HN.out]; exact hlt
        have p0 := (hq.cell (p := ⟨gp, _, none⟩) hgp).trans (hpc n _ (List.getElem?_eq_getElem hlt'))
        obtain ⟨np1, np2, _⟩ := ascN_drop ps 0 b.mail.length n HNK.out hlt'
        have hstep := fun (k : Nat) (m : M) (hp : ps[n] = (k : Int) + 1) (hm : b.mail[k]? = some m) => copyRun_step (tb := tb) hlt' hp hm (by rw [HRUN.out])
        generalize ps[n] = p at p0 np1 np2 hstep
        obtain ⟨k, rfl⟩ : ∃ k : Nat, p = (k : Int) + 1 := ⟨(p - 1).toNat, by omega⟩
        have hk : k < b.mail.length := by omega
        have hm := List.getElem?_eq_getElem hk
        rcases HMAIL.out with h0 | ⟨gm, off, rfl, hg, hcells⟩
        · exfalso; omega
        generalize b.mail[k] = m at hm
        have hst := hstep k m rfl hm
        rw [HRUN.out] at hst
        obtain ⟨m0, m1, m2⟩ := hcells k _ hm
        have m0 := (hq.cell (p := ⟨gm, _, none⟩) hg).trans m0
        have m1 := (hq.cell (p := ⟨gm, _, none⟩) hg).trans m1
        have m2 := (hq.cell (p := ⟨gm, _, none⟩) hg).trans m2
        have hmk := bok_mok HBK.out m (List.mem_of_getElem? hm)
        have HST := Lib.hid hst; have HMK := Lib.hid hmk
        have hnI : (n : Int) < (N : Int) := by omega
        have hkI : (k : Int) < (b.mail.length : Int) := by omega
        have hk0 : (0 : Int) ≤ (k : Int) := Int.natCast_nonneg _
        have x1' : IntKind.i64.wrap ((k : Int) + 1 - 1) = (k : Int) := by rw [show (k : Int) + 1 - 1 = (k : Int) from by omega]; exact IntWalk.i64_in _ (by omega)
        have x2' : IntKind.i64.wrap (k : Int) = (k : Int) := IntWalk.i64_in _ (by omega)
        obtain ⟨wm, hwm⟩ : ∃ wm, wm = wr.alloc (.cells #[.int .i64 m.uid, .int .i64 m.flags, .string m.text] 47) := ⟨_, rfl⟩
        have qm : Below wr.heap.size wr wm := by rw [hwm]; exact (Below.refl _ _).alloc (Nat.le_refl _) _
        have zm : wm.heap[wr.heap.size]? = some (.cells #[.int .i64 m.uid, .int .i64 m.flags, .string m.text] 47 (0, 0)) := by rw [hwm]; exact heap_alloc_new wr _
        have HWM := Lib.hid hwm; have QM := Lib.hid qm; have ZM := Lib.hid zm
        clear hcells hpc hm hstep hst hmk hwm qm zm
        go_upto_region 7 with fail
        go_cut [10] (fun q wx => ∃ km, q = .pointer (some ⟨km, 0, none⟩) ∧ Hid (wx.heap[km]? = some (.cells #[.int .i64 m.uid, .int .i64 m.flags, .string m.text] 47 (0, 0))) ∧ Below wr.heap.size wr wx)
        case first =>
          go_region_held3 (fun W => W.cell? ⟨w.heap.size, 1, none⟩ = some (.slice (some ⟨gm, off, none⟩) b.mail.length cap) ∧ W.cell? ⟨gp, offp + n, none⟩ = some (.int .i64 ((k : Int) + 1)) ∧ W.cell? ⟨gm, off + k * 3, none⟩ = some (.int .i64 m.uid) ∧ W.cell? ⟨gm, off + k * 3 + 1, none⟩ = some (.int .i64 m.flags) ∧ W.cell? ⟨gm, off + k * 3 + 2, none⟩ = some (.string m.text)) (first | exact ⟨c1, p0, m0, m1, m2⟩ | (go_keep; done)) (fail)
          all_goals
            go_wp2_with fail
            go_meet
            exact ⟨_, rfl, heap_alloc_new wr _, ((Below.refl _ _).alloc (Nat.le_refl _) _).drew⟩
        obtain ⟨km, rfl, ZK, hx⟩ := hcut
        obtain ⟨c0, c1, f0, f1⟩ := two_cells ((hx.block _ (lt_of_block X0.out)).trans X0.out)
        obtain ⟨d0, d1, e0, e1⟩ := (HC.out.below hx).cells
        obtain ⟨m3, m4, m5, j0, j1, j2⟩ := three_cells ZK.out
        have hqx := hq.trans (hx.mono zq)
        have zx := hx.size
        have HCx := Lib.hid (HC.out.below hx)
        have y0 := (hx.block _ (lt_of_block X0.out)).trans X0.out
        have y1 := (hx.block _ (lt_of_block X1.out)).trans X1.out
        have y2 := (hx.block _ (lt_of_block X2.out)).trans X2.out
        replace X0 := Lib.hid y0; replace X1 := Lib.hid y1; replace X2 := Lib.hid y2
        clear y0 y1 y2 hx HC
        go_wp2_with fail
        refine (l11Append_any C m.flags m.text _ _ HCx.out.box (by omega)).mono ?_
        rintro e w7 ⟨s7, rfl, ho, _, q7⟩
        obtain ⟨a7, c7, rfl⟩ := ho.slice
        have hTl : (addTo C m.flags m.text).1.mail.length ≤ 11 := by unfold addTo; split <;> simp <;> omega
        obtain ⟨T, hT⟩ : ∃ T, addTo C m.flags m.text = T := ⟨_, rfl⟩
        have hst2 := HST.out
        rw [hT] at ho hTl hst2 ⊢
        have HST2 := Lib.hid hst2
        obtain ⟨w8, hw8, T8, q8, s8⟩ := new_box (b := T.1) ho (by omega)
        have hq8 := (hqx.trans (q7.mono hqx.size)).trans (q8.mono (Nat.le_trans hqx.size q7.size))
        have zq7 := q7.size
        have HC8 := Lib.hid ((HCx.out.below q7).below q8)
        have y0 := (q8.block _ (by have := lt_of_block X0.out; omega)).trans ((q7.block _ (lt_of_block X0.out)).trans X0.out)
        have y1 := (q8.block _ (by have := lt_of_block X1.out; omega)).trans ((q7.block _ (lt_of_block X1.out)).trans X1.out)
        have y2 := (q8.block _ (by have := lt_of_block X2.out; omega)).trans ((q7.block _ (lt_of_block X2.out)).trans X2.out)
        have k1' := (q7.block _ (lt_of_block X1.out)).trans X1.out
        have l1' := lt_of_block k1'
        have hc7 := (HCx.out.below q7).cells
        have hl7 := (HCx.out.below q7).lt
        replace X0 := Lib.hid y0; replace X1 := Lib.hid y1; replace X2 := Lib.hid y2
        have HW8 := Lib.hid hw8; have HT8 := Lib.hid T8; have HOT := Lib.hid ho
        clear hT hst2 HST ho hw8 T8 q8 q7 HCx y0 y1 y2 p0 m0 m1 m2 ZM QM HWM x1' x2'
        rcases hT2 : T.2 with _ | _
        · have hfail : copyTo b ps tb = (tb, false) := by
            rw [HR.out]
            have h1 : (copyRun b (ps.take (n + 1)) tb).2 = false := by rw [HST2.out, hT2]
            have h2 : (copyRun b ps tb).2 = false := by rw [copyRun_stop h1, h1]
            rw [h2]; rfl
          have HFAIL := Lib.hid hfail
          clear hfail hT2 HST2
          obtain ⟨g2, g3, i2, i3⟩ := two_cells k1'
          clear k1' hc7 hl7
          go_wp2_with fail
          rw [← HW8.out]
          refine (l11Copy_at tb (.agg #[.int .i64 tb.next, .slice at_ tb.mail.length capt]) _ (HT.out.below hq8)).mono ?_
          rintro e w9 ⟨g9, cap9, rfl, hc9, hg8, hg9, ho9, q9⟩
          have hq10 := hq8.trans (q9.mono hq8.size)
          have y2 := (q9.block _ (lt_of_block X2.out)).trans X2.out
          obtain ⟨c4, c5, f4, f5⟩ := two_cells y2
          have l2 := lt_of_block y2
          have HO9 := Lib.hid ho9
          clear g2 g3 i2 i3 q9 y2 ho9
          go_wp2_with fail
          refine bodyPost_ret (v := .tuple #[.agg #[.int .i64 tb.next, .slice (some ⟨g9, 0, none⟩) tb.mail.length cap9], .bool false]) (by simp [results, Try.results6, go_sem, *]) rfl ⟨_, by rw [HFAIL.out], ?_, ?_⟩
          · rw [HFAIL.out]
            have l8 := lt_of_block X2.out
            exact ((HO9.out.setLow (by show w.heap.size + 2 < w8.heap.size; omega) _).setLow (by show w.heap.size + 2 < w8.heap.size; omega) _).more (by omega)
          · exact (hq10.setCell (by show w.heap.size ≤ w.heap.size + 2; omega) _).setCell (by show w.heap.size ≤ w.heap.size + 2; omega) _
        · have hrun2 : copyRun b (ps.take (n + 1)) tb = (T.1, true) := by rw [HST2.out, ← hT2]
          have HRUN2 := Lib.hid hrun2
          obtain ⟨g0, g1, i0, i1⟩ := hc7
          clear hrun2 hT2 HST2 k1'
          have hbase := HT8.out.own.more (base' := w4.heap.size) (by omega)
          have hst8 := HC8.out.store (b' := T.1) hbase (by omega)
          have hq9 : Below w.heap.size w ((w8.setCell ⟨w5.heap.size, 0, none⟩ (.int .i64 T.1.next)).setCell ⟨w5.heap.size, 1, none⟩ (.slice a7 T.1.mail.length c7)) := (hq8.setCell (by show w.heap.size ≤ w5.heap.size; omega) _).setCell (by show w.heap.size ≤ w5.heap.size; omega) _
          have y0 := (set_off (o := 1) (u := .slice a7 T.1.mail.length c7) (show w.heap.size ≠ w5.heap.size by omega)).trans ((set_off (o := 0) (u := .int .i64 T.1.next) (show w.heap.size ≠ w5.heap.size by omega)).trans X0.out)
          have y1 := (set_off (o := 1) (u := .slice a7 T.1.mail.length c7) (show w.heap.size + 1 ≠ w5.heap.size by omega)).trans ((set_off (o := 0) (u := .int .i64 T.1.next) (show w.heap.size + 1 ≠ w5.heap.size by omega)).trans X1.out)
          have y2 := (set_off (o := 1) (u := .slice a7 T.1.mail.length c7) (show w.heap.size + 2 ≠ w5.heap.size by omega)).trans ((set_off (o := 0) (u := .int .i64 T.1.next) (show w.heap.size + 2 ≠ w5.heap.size by omega)).trans X2.out)
          have ST := Lib.hid hst8; have Y0 := Lib.hid y0; have Y1 := Lib.hid y1; have Y2 := Lib.hid y2; have Q9 := Lib.hid hq9
          clear hbase hst8 y0 y1 y2 hq9
          have hsw : (w8.setCell ⟨w5.heap.size, 0, none⟩ (.int .i64 T.1.next)).setCell ⟨w5.heap.size, 1, none⟩ (.slice a7 T.1.mail.length c7) = ((w7.setCell ⟨w5.heap.size, 0, none⟩ (.int .i64 T.1.next)).setCell ⟨w5.heap.size, 1, none⟩ (.slice a7 T.1.mail.length c7)).alloc (.cells #[.int .i64 T.1.next, .slice a7 T.1.mail.length c7] 29) := by
            rw [HW8.out, World.setCell_alloc_past (hn := hl7), World.setCell_alloc_past (hn := by simpa using hl7)]
          have HSW := Lib.hid hsw
          clear hsw
          go_wp2_with fail
          rw [← HSW.out]
          go_roundg (gk - 1)
          case measure => omega
          case rel => exact ⟨n + 1, T.1, a7, c7, by omega, by go_num, HRUN2.out, ST.out, Q9.out, Y0.out, Y1.out, Y2.out⟩
      · have hnn : n = N := by omega
        have hfin : copyTo b ps tb = (C, true) := by
          rw [HR.out]
          have e : copyRun b ps tb = (C, true) := by rw [← HRUN.out, hnn, ← HN.out, List.take_length]
          rw [e]; rfl
        have HFIN := Lib.hid hfin; have HNN := Lib.hid hnn
        obtain ⟨c4, c5, f4, f5⟩ := two_cells X2.out
        have l2 := lt_of_block X2.out
        clear hfin hnn
        go_wp2_with fail
        refine bodyPost_ret (v := .tuple #[.agg #[.int .i64 C.next, .slice ac C.mail.length cc], .bool true]) (by simp [results, Try.results6, go_sem, *]) rfl ⟨_, by rw [HFIN.out], ?_, ?_⟩
        · rw [HFIN.out]
          exact ((HC.out.own.setLow (by show w.heap.size + 2 < w4.heap.size; omega) _).setLow (by show w.heap.size + 2 < w4.heap.size; omega) _).more (by omega)
        · exact (hq.setCell (by show w.heap.size ≤ w.heap.size + 2; omega) _).setCell (by show w.heap.size ≤ w.heap.size + 2; omega) _
set_option maxHeartbeats 2000000 in
theorem implBoxCopy_any (b tb : B) (ps : List Int) (v vp vt : Value) (w : World) (hb : BoxAt w v b) (hp : IntsAt w vp ps) (ht : BoxAt w vt tb) :
    Calls Try.prog 9 #[v, vp, vt] w fun e w' => ∃ s, e = .returned (.tuple #[.agg #[.int .i64 (copyTo b ps tb).1.next, s], .bool (copyTo b ps tb).2]) ∧ Own w' w.heap.size s (copyTo b ps tb).1.mail ∧ Below w.heap.size w w' := by
  have hb' := hb
  have hp' := hp
  have ht' := ht
  obtain ⟨s, rfl, a, L, cap, rfl, rfl, hcap, ⟨hmax, hnil⟩, hmail⟩ := hb
  obtain ⟨ap, N, capp, rfl, hN, hcp, _, hints⟩ := hp
  obtain ⟨st, rfl, at_, Lt, capt, rfl, rfl, hcapt, _, _⟩ := ht
  obtain ⟨w1, hw1⟩ : ∃ w1, w1 = ((w.alloc (.cells #[.int .i64 b.next, .slice a b.mail.length cap] 29)).alloc (.cells #[.int .i64 tb.next, .slice at_ tb.mail.length capt] 29)).alloc (.cells #[.int .i64 0, .slice none 0 0] 29) := ⟨_, rfl⟩
  have bel1 : Below w.heap.size w w1 := by rw [hw1]; go_grown
  have x0 : w1.heap[w.heap.size]? = some (.cells #[.int .i64 b.next, .slice a b.mail.length cap] 29 (0, 0)) := by
    rw [hw1, Below.heap_alloc _ _ _ (by simp; omega), Below.heap_alloc _ _ _ (by simp)]; exact heap_alloc_new w _
  have x1 : w1.heap[w.heap.size + 1]? = some (.cells #[.int .i64 tb.next, .slice at_ tb.mail.length capt] 29 (0, 0)) := by
    rw [hw1, Below.heap_alloc _ _ _ (by simp)]; have := heap_alloc_new (w.alloc (.cells #[.int .i64 b.next, .slice a b.mail.length cap] 29)) (.cells #[.int .i64 tb.next, .slice at_ tb.mail.length capt] 29); simpa using this
  have x2 : w1.heap[w.heap.size + 2]? = some (.cells #[.int .i64 0, .slice none 0 0] 29 (0, 0)) := by
    rw [hw1]; have := heap_alloc_new ((w.alloc (.cells #[.int .i64 b.next, .slice a b.mail.length cap] 29)).alloc (.cells #[.int .i64 tb.next, .slice at_ tb.mail.length capt] 29)) (.cells #[.int .i64 0, .slice none 0 0] 29); simpa using this
  have hsz : w.heap.size + 3 ≤ w1.heap.size := by rw [hw1]; simp
  have HW := Lib.hid hw1
  have K := implBoxValid_any b (.agg #[.int .i64 b.next, .slice a b.mail.length cap]) w1 (hb'.below bel1)
  have HK := Lib.hid K; have HB := Lib.hid hb'; have HP := Lib.hid hp'; have HT := Lib.hid ht'; have HN := Lib.hid hN
  have HMAIL := Lib.hid hmail; have HINTS := Lib.hid hints
  have fin : (bok b = false ∨ bok tb = false ∨ numsOk b.mail.length ps = false) → ∀ W, Below w.heap.size w W → Own W w.heap.size (.slice none 0 0) (copyTo b ps tb).1.mail ∧ Below w.heap.size w W ∧ copyTo b ps tb = (nobox, false) := by
    intro hno W hW
    rw [copyTo_no hno]
    exact ⟨World.ownsRow_nil _ _ _ _, hW, rfl⟩
  have HF := Lib.hid fin
  clear hb' hp' ht' hnil hmail hw1 K hN hints fin
  go_enter Try.func9, Try.ntmps9
  go_wp2_with fail
  rw [← HW.out]
  refine HK.out.mono ?_
  rintro e w2 ⟨rfl, q2⟩
  replace x0 := (q2.block _ (by omega)).trans x0
  replace x1 := (q2.block _ (by omega)).trans x1
  replace x2 := (q2.block _ (by omega)).trans x2
  have bel2 := bel1.trans (q2.mono bel1.size)
  have z2 : w.heap.size + 2 < w2.heap.size := by have := q2.size; omega
  clear bel1 q2 HK HW
  obtain ⟨c0, c1, f0, f1⟩ := two_cells x0
  obtain ⟨c2, c3, f2, f3⟩ := two_cells x1
  obtain ⟨c4, c5, f4, f5⟩ := two_cells x2
  rcases hbk : bok b with _ | _
  · clear x0 x1 x2
    go_wp2_with fail
    refine bodyPost_ret (v := .tuple #[.agg #[.int .i64 0, .slice none 0 0], .bool false]) (by simp [results, Try.results9, go_sem, *]) rfl ?_
    have k := HF.out (.inl hbk) ((w2.setCell ⟨w.heap.size + 2, 0, none⟩ (.int .i64 0)).setCell ⟨w.heap.size + 2, 1, none⟩ (.slice none 0 0)) (by go_grown)
    exact ⟨_, by rw [k.2.2]; rfl, k.1, k.2.1⟩
  have K := implBoxValid_any tb (.agg #[.int .i64 tb.next, .slice at_ tb.mail.length capt]) w2 (HT.out.below bel2)
  have HK := Lib.hid K
  have X0 := Lib.hid x0; have X1 := Lib.hid x1; have X2 := Lib.hid x2
  clear K x0 x1 x2
  go_wp2_with fail
  refine HK.out.mono ?_
  rintro e w3 ⟨rfl, q3⟩
  have bel3 := bel2.trans (q3.mono bel2.size)
  have x0 := (q3.block _ (by omega)).trans X0.out
  have x1 := (q3.block _ (by omega)).trans X1.out
  have x2 := (q3.block _ (by omega)).trans X2.out
  have z3 := q3.size
  clear c0 c1 c2 c3 c4 c5 f0 f1 f2 f3 f4 f5 HK q3 X0 X1 X2
  obtain ⟨c0, c1, f0, f1⟩ := two_cells x0
  obtain ⟨c2, c3, f2, f3⟩ := two_cells x1
  obtain ⟨c4, c5, f4, f5⟩ := two_cells x2
  rcases htk : bok tb with _ | _
  · clear x0 x1 x2
    go_wp2_with fail
    refine bodyPost_ret (v := .tuple #[.agg #[.int .i64 0, .slice none 0 0], .bool false]) (by simp [results, Try.results9, go_sem, *]) rfl ?_
    have k := HF.out (.inr (.inl htk)) ((w3.setCell ⟨w.heap.size + 2, 0, none⟩ (.int .i64 0)).setCell ⟨w.heap.size + 2, 1, none⟩ (.slice none 0 0)) (by go_grown)
    exact ⟨_, by rw [k.2.2]; rfl, k.1, k.2.1⟩
  · obtain ⟨hn0, hn1, hl10⟩ := bok_next hbk
    have K := placesValid_any ps b.mail.length (.slice ap N capp) w3 (HP.out.below bel3) (by omega)
    have HK := Lib.hid K
    have X0 := Lib.hid x0; have X1 := Lib.hid x1; have X2 := Lib.hid x2
    clear K x0 x1 x2
    go_wp2_with fail
    refine HK.out.mono ?_
    rintro e w4 ⟨rfl, hw4⟩
    have q4 : Below w3.heap.size w3 w4 := by rw [← hw4]; exact Below.refl _ _
    clear hw4
    have bel4 := bel3.trans (q4.mono bel3.size)
    have x0 := (q4.block _ (by omega)).trans X0.out
    have x1 := (q4.block _ (by omega)).trans X1.out
    have x2 := (q4.block _ (by omega)).trans X2.out
    have z4 := q4.size
    clear c0 c1 c2 c3 c4 c5 f0 f1 f2 f3 f4 f5 HK X0 X1 X2
    obtain ⟨c0, c1, f0, f1⟩ := two_cells x0
    obtain ⟨c2, c3, f2, f3⟩ := two_cells x1
    obtain ⟨c4, c5, f4, f5⟩ := two_cells x2
    rcases hnk : numsOk b.mail.length ps with _ | _
    · clear x0 x1 x2
      go_wp2_with fail
      refine bodyPost_ret (v := .tuple #[.agg #[.int .i64 0, .slice none 0 0], .bool false]) (by simp [results, Try.results9, go_sem, *]) rfl ?_
      have k := HF.out (.inr (.inr hnk)) ((w4.setCell ⟨w.heap.size + 2, 0, none⟩ (.int .i64 0)).setCell ⟨w.heap.size + 2, 1, none⟩ (.slice none 0 0)) (by go_grown)
      exact ⟨_, by rw [k.2.2]; rfl, k.1, k.2.1⟩
    have hr := copyTo_yes hbk htk hnk
    have HR := Lib.hid hr
    have HNK := Lib.hid hnk; have HBK := Lib.hid hbk; have HTK := Lib.hid htk
    have K := boxClone_any tb (.agg #[.int .i64 tb.next, .slice at_ tb.mail.length capt]) w4 (HT.out.below bel4)
    have HK := Lib.hid K
    have X0 := Lib.hid x0; have X1 := Lib.hid x1; have X2 := Lib.hid x2
    have hlt10 := (bok_next htk).2.2
    clear K x0 x1 x2 hr HF HB hnk hbk htk
    go_wp2_with fail
    refine HK.out.mono ?_
    rintro e w5 ⟨g, cap5, rfl, ho, q5⟩
    have bel5 := bel4.trans (q5.mono bel4.size)
    have z5 := q5.size
    obtain ⟨w6, hw6, C6, q6, s6⟩ := new_box (b := tb) ho (by omega)
    have bel6 := bel5.trans (q6.mono bel5.size)
    have x0 := (q6.block _ (by omega)).trans ((q5.block _ (by omega)).trans X0.out)
    have x1 := (q6.block _ (by omega)).trans ((q5.block _ (by omega)).trans X1.out)
    have x2 := (q6.block _ (by omega)).trans ((q5.block _ (by omega)).trans X2.out)
    have HW := Lib.hid hw6; have HC6 := Lib.hid C6
    clear X0 X1 X2
    have X0 := Lib.hid x0; have X1 := Lib.hid x1; have X2 := Lib.hid x2
    clear c0 c1 c2 c3 c4 c5 f0 f1 f2 f3 f4 f5 HK ho q5 hw6 C6 q6 x0 x1 x2
    go_wp2_with fail
    rw [← HW.out]
    clear HW
    go_loopg [35] N (fun gk i wr => ∃ (n : Nat) (C : B) (ac : Option Addr) (cc : Nat), n + gk = N ∧ i = .int .i64 n ∧ Hid (copyRun b (ps.take n) tb = (C, true)) ∧ Hid (BoxCell wr w5.heap.size w4.heap.size C ac cc) ∧ Below w.heap.size w wr ∧ Hid (wr.heap[w.heap.size]? = some (.cells #[.int .i64 b.next, .slice a b.mail.length cap] 29 (0, 0))) ∧
      Hid (wr.heap[w.heap.size + 1]? = some (.cells #[.int .i64 tb.next, .slice at_ tb.mail.length capt] 29 (0, 0))) ∧ Hid (wr.heap[w.heap.size + 2]? = some (.cells #[.int .i64 0, .slice none 0 0] 29 (0, 0))))
    case atStart => exact ⟨0, tb, _, _, by omega, rfl, rfl, HC6.out, bel6, X0.out, X1.out, X2.out⟩
    case round =>
      clear HC6 bel6 X0 X1 X2
      obtain ⟨n, C, ac, cc, hn, rfl, HRUN, HC, hq, X0, X1, X2⟩ := hrel
      have hCb : bok C = true := by
        have := copyRun_ok HBK.out (ps.take n) (tb, true) HTK.out
        have e : (ps.take n).foldl (copyStep b) (tb, true) = (C, true) := HRUN.out
        rw [e] at this; exact this
      obtain ⟨hC1, hC2, hC3⟩ := bok_next hCb
      have HCB := Lib.hid hCb
      obtain ⟨c0, c1, f0, f1⟩ := two_cells X0.out
      obtain ⟨d0, d1, e0, e1⟩ := HC.out.cells
      have zc := HC.out.lt
      have zq := hq.size
      clear hCb
      by_cases hlt : n < N
      · rcases HINTS.out with h0 | ⟨gp, offp, rfl, hgp, hpc⟩
        · exfalso; omega
        have hlt' : n < ps.length := by rw [HN.out]; exact hlt
        have p0 := (hq.cell (p := ⟨gp, _, none⟩) hgp).trans (hpc n _ (List.getElem?_eq_getElem hlt'))
        obtain ⟨np1, np2, _⟩ := ascN_drop ps 0 b.mail.length n HNK.out hlt'
        have hstep := fun (k : Nat) (m : M) (hp : ps[n] = (k : Int) + 1) (hm : b.mail[k]? = some m) => copyRun_step (tb := tb) hlt' hp hm (by rw [HRUN.out])
        generalize ps[n] = p at p0 np1 np2 hstep
        obtain ⟨k, rfl⟩ : ∃ k : Nat, p = (k : Int) + 1 := ⟨(p - 1).toNat, by omega⟩
        have hk : k < b.mail.length := by omega
        have hm := List.getElem?_eq_getElem hk
        rcases HMAIL.out with h0 | ⟨gm, off, rfl, hg, hcells⟩
        · exfalso; omega
        generalize b.mail[k] = m at hm
        have hst := hstep k m rfl hm
        rw [HRUN.out] at hst
        obtain ⟨m0, m1, m2⟩ := hcells k _ hm
        have m0 := (hq.cell (p := ⟨gm, _, none⟩) hg).trans m0
        have m1 := (hq.cell (p := ⟨gm, _, none⟩) hg).trans m1
        have m2 := (hq.cell (p := ⟨gm, _, none⟩) hg).trans m2
        have hmk := bok_mok HBK.out m (List.mem_of_getElem? hm)
        have HST := Lib.hid hst; have HMK := Lib.hid hmk
        have hnI : (n : Int) < (N : Int) := by omega
        have hkI : (k : Int) < (b.mail.length : Int) := by omega
        have hk0 : (0 : Int) ≤ (k : Int) := Int.natCast_nonneg _
        have x1' : IntKind.i64.wrap ((k : Int) + 1 - 1) = (k : Int) := by rw [show (k : Int) + 1 - 1 = (k : Int) from by omega]; exact IntWalk.i64_in _ (by omega)
        have x2' : IntKind.i64.wrap (k : Int) = (k : Int) := IntWalk.i64_in _ (by omega)
        obtain ⟨wm, hwm⟩ : ∃ wm, wm = wr.alloc (.cells #[.int .i64 m.uid, .int .i64 m.flags, .string m.text] 47) := ⟨_, rfl⟩
        have qm : Below wr.heap.size wr wm := by rw [hwm]; exact (Below.refl _ _).alloc (Nat.le_refl _) _
        have zm : wm.heap[wr.heap.size]? = some (.cells #[.int .i64 m.uid, .int .i64 m.flags, .string m.text] 47 (0, 0)) := by rw [hwm]; exact heap_alloc_new wr _
        have HWM := Lib.hid hwm; have QM := Lib.hid qm; have ZM := Lib.hid zm
        clear hcells hpc hm hstep hst hmk hwm qm zm
        go_wp2_with fail
        rw [← HWM.out]
        have hx := QM.out
        clear c0 c1 f0 f1 d0 d1 e0 e1
        have hqx := hq.trans (hx.mono zq)
        have zx := hx.size
        have HCx := Lib.hid (HC.out.below hx)
        have y0 := (hx.block _ (lt_of_block X0.out)).trans X0.out
        have y1 := (hx.block _ (lt_of_block X1.out)).trans X1.out
        have y2 := (hx.block _ (lt_of_block X2.out)).trans X2.out
        replace X0 := Lib.hid y0; replace X1 := Lib.hid y1; replace X2 := Lib.hid y2
        clear y0 y1 y2 hx HC
        have hap := appendTo_yes HCB.out (mok_flags HMK.out) (mok_text HMK.out)
        have K7 := implBoxAppend_any C m.flags m.text _ wm HCx.out.box
        rw [hap] at K7
        refine K7.mono ?_
        clear K7 hap
        rintro e w7 ⟨s7, rfl, ho, q7⟩
        obtain ⟨a7, c7, rfl⟩ := ho.slice
        have hTl : (addTo C m.flags m.text).1.mail.length ≤ 11 := by unfold addTo; split <;> simp <;> omega
        obtain ⟨T, hT⟩ : ∃ T, addTo C m.flags m.text = T := ⟨_, rfl⟩
        have hst2 := HST.out
        rw [hT] at ho hTl hst2 ⊢
        have HST2 := Lib.hid hst2
        obtain ⟨w8, hw8, T8, q8, s8⟩ := new_box (b := T.1) ho (by omega)
        have hq8 := (hqx.trans (q7.mono hqx.size)).trans (q8.mono (Nat.le_trans hqx.size q7.size))
        have zq7 := q7.size
        have HC8 := Lib.hid ((HCx.out.below q7).below q8)
        have y0 := (q8.block _ (by have := lt_of_block X0.out; omega)).trans ((q7.block _ (lt_of_block X0.out)).trans X0.out)
        have y1 := (q8.block _ (by have := lt_of_block X1.out; omega)).trans ((q7.block _ (lt_of_block X1.out)).trans X1.out)
        have y2 := (q8.block _ (by have := lt_of_block X2.out; omega)).trans ((q7.block _ (lt_of_block X2.out)).trans X2.out)
        have k1' := (q7.block _ (lt_of_block X1.out)).trans X1.out
        have l1' := lt_of_block k1'
        have hc7 := (HCx.out.below q7).cells
        have hl7 := (HCx.out.below q7).lt
        replace X0 := Lib.hid y0; replace X1 := Lib.hid y1; replace X2 := Lib.hid y2
        have HW8 := Lib.hid hw8; have HT8 := Lib.hid T8; have HOT := Lib.hid ho
        clear hT hst2 HST ho hw8 T8 q8 q7 HCx y0 y1 y2 p0 m0 m1 m2 ZM QM HWM x1' x2'
        rcases hT2 : T.2 with _ | _
        · have hfail : copyTo b ps tb = (tb, false) := by
            rw [HR.out]
            have h1 : (copyRun b (ps.take (n + 1)) tb).2 = false := by rw [HST2.out, hT2]
            have h2 : (copyRun b ps tb).2 = false := by rw [copyRun_stop h1, h1]
            rw [h2]; rfl
          have HFAIL := Lib.hid hfail
          clear hfail hT2 HST2
          obtain ⟨g2, g3, i2, i3⟩ := two_cells k1'
          clear k1' hc7 hl7
          go_wp2_with fail
          rw [← HW8.out]
          refine (boxClone_any tb (.agg #[.int .i64 tb.next, .slice at_ tb.mail.length capt]) _ (HT.out.below hq8)).mono ?_
          rintro e w9 ⟨g9, cap9, rfl, ho9, q9⟩
          have hq10 := hq8.trans (q9.mono hq8.size)
          have y2 := (q9.block _ (lt_of_block X2.out)).trans X2.out
          obtain ⟨c4, c5, f4, f5⟩ := two_cells y2
          have l2 := lt_of_block y2
          have HO9 := Lib.hid ho9
          clear g2 g3 i2 i3 q9 y2 ho9
          go_wp2_with fail
          refine bodyPost_ret (v := .tuple #[.agg #[.int .i64 tb.next, .slice (some ⟨g9, 0, none⟩) tb.mail.length cap9], .bool false]) (by simp [results, Try.results9, go_sem, *]) rfl ⟨_, by rw [HFAIL.out], ?_, ?_⟩
          · rw [HFAIL.out]
            have l8 := lt_of_block X2.out
            exact ((HO9.out.setLow (by show w.heap.size + 2 < w8.heap.size; omega) _).setLow (by show w.heap.size + 2 < w8.heap.size; omega) _).more (by omega)
          · exact (hq10.setCell (by show w.heap.size ≤ w.heap.size + 2; omega) _).setCell (by show w.heap.size ≤ w.heap.size + 2; omega) _
        · have hrun2 : copyRun b (ps.take (n + 1)) tb = (T.1, true) := by rw [HST2.out, ← hT2]
          have HRUN2 := Lib.hid hrun2
          obtain ⟨g0, g1, i0, i1⟩ := hc7
          clear hrun2 hT2 HST2 k1'
          have hbase := HT8.out.own.more (base' := w4.heap.size) (by omega)
          have hst8 := HC8.out.store (b' := T.1) hbase (by omega)
          have hq9 : Below w.heap.size w ((w8.setCell ⟨w5.heap.size, 0, none⟩ (.int .i64 T.1.next)).setCell ⟨w5.heap.size, 1, none⟩ (.slice a7 T.1.mail.length c7)) := (hq8.setCell (by show w.heap.size ≤ w5.heap.size; omega) _).setCell (by show w.heap.size ≤ w5.heap.size; omega) _
          have y0 := (set_off (o := 1) (u := .slice a7 T.1.mail.length c7) (show w.heap.size ≠ w5.heap.size by omega)).trans ((set_off (o := 0) (u := .int .i64 T.1.next) (show w.heap.size ≠ w5.heap.size by omega)).trans X0.out)
          have y1 := (set_off (o := 1) (u := .slice a7 T.1.mail.length c7) (show w.heap.size + 1 ≠ w5.heap.size by omega)).trans ((set_off (o := 0) (u := .int .i64 T.1.next) (show w.heap.size + 1 ≠ w5.heap.size by omega)).trans X1.out)
          have y2 := (set_off (o := 1) (u := .slice a7 T.1.mail.length c7) (show w.heap.size + 2 ≠ w5.heap.size by omega)).trans ((set_off (o := 0) (u := .int .i64 T.1.next) (show w.heap.size + 2 ≠ w5.heap.size by omega)).trans X2.out)
          have ST := Lib.hid hst8; have Y0 := Lib.hid y0; have Y1 := Lib.hid y1; have Y2 := Lib.hid y2; have Q9 := Lib.hid hq9
          clear hbase hst8 y0 y1 y2 hq9
          have hsw : (w8.setCell ⟨w5.heap.size, 0, none⟩ (.int .i64 T.1.next)).setCell ⟨w5.heap.size, 1, none⟩ (.slice a7 T.1.mail.length c7) = ((w7.setCell ⟨w5.heap.size, 0, none⟩ (.int .i64 T.1.next)).setCell ⟨w5.heap.size, 1, none⟩ (.slice a7 T.1.mail.length c7)).alloc (.cells #[.int .i64 T.1.next, .slice a7 T.1.mail.length c7] 29) := by
            rw [HW8.out, World.setCell_alloc_past (hn := hl7), World.setCell_alloc_past (hn := by simpa using hl7)]
          have HSW := Lib.hid hsw
          clear hsw
          go_wp2_with fail
          rw [← HSW.out]
          go_roundg (gk - 1)
          case measure => omega
          case rel => exact ⟨n + 1, T.1, a7, c7, by omega, by go_num, HRUN2.out, ST.out, Q9.out, Y0.out, Y1.out, Y2.out⟩
      · have hnn : n = N := by omega
        have hfin : copyTo b ps tb = (C, true) := by
          rw [HR.out]
          have e : copyRun b ps tb = (C, true) := by rw [← HRUN.out, hnn, ← HN.out, List.take_length]
          rw [e]; rfl
        have HFIN := Lib.hid hfin; have HNN := Lib.hid hnn
        obtain ⟨c4, c5, f4, f5⟩ := two_cells X2.out
        have l2 := lt_of_block X2.out
        clear hfin hnn
        go_wp2_with fail
        refine bodyPost_ret (v := .tuple #[.agg #[.int .i64 C.next, .slice ac C.mail.length cc], .bool true]) (by simp [results, Try.results9, go_sem, *]) rfl ⟨_, by rw [HFIN.out], ?_, ?_⟩
        · rw [HFIN.out]
          exact ((HC.out.own.setLow (by show w.heap.size + 2 < w4.heap.size; omega) _).setLow (by show w.heap.size + 2 < w4.heap.size; omega) _).more (by omega)
        · exact (hq.setCell (by show w.heap.size ≤ w.heap.size + 2; omega) _).setCell (by show w.heap.size ≤ w.heap.size + 2; omega) _
end Go.Proofs.Ytpahgjideppmoaa

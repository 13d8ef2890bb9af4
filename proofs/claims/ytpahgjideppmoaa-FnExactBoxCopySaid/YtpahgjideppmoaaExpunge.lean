/- WALKS: the reference removes deleted messages. -/
import Derived.Test.YtpahgjideppmoaaMail
import Derived.Test.YtpahgjideppmoaaFlags2
import Derived.Deep.RegionLaw
import Derived.Deep.AppendLies
namespace Go.Proofs.Ytpahgjideppmoaa
open Go.RowKit
set_option linter.unusedVariables false

/-- A row of numbers that the call owns. -/
def OwnInts (w : World) (base : Nat) (v : Value) (l : List Int) : Prop := w.ownsRow base 3 1 v l.length (l.map (Value.int .i64))
theorem Try.infoInt : (Try.prog.info? 3).map (fun i => (i.zero, i.size, i.bytes)) = some (some (.int .i64 0), 1, 8) := by kernel_rfl
theorem OwnInts.more {w : World} {base base' : Nat} {v : Value} {l : List Int} (h : OwnInts w base v l) (hb : base' ≤ base) : OwnInts w base' v l := by
  refine ⟨h.1, ?_⟩
  rcases h.2 with h2 | ⟨g, cap, cur, hv, hg, r⟩
  · exact .inl h2
  · exact .inr ⟨g, cap, cur, hv, by omega, r⟩
theorem OwnInts.below {w w' : World} {base : Nat} {v : Value} {l : List Int} (h : OwnInts w base v l) (hb : Below w.heap.size w w') : OwnInts w' base v l :=
  World.ownsRow.kept (row := none) h ⟨hb.os, hb.tape, hb.output, hb.size, fun k hk _ => hb.block k hk⟩ (by cases v.ownBlock <;> simp)

set_option maxHeartbeats 1000000 in
theorem specBoxExpunge_any (b : B) (v : Value) (w : World) (hb : BoxAt w v b) :
    Calls Try.prog 45 #[v] w fun e w' => ∃ s g, e = .returned (.tuple #[.agg #[.int .i64 (expunge b).1.next, s], g]) ∧ Own w' w.heap.size s (expunge b).1.mail ∧ OwnInts w' w.heap.size g (expunge b).2 ∧ Below w.heap.size w w' := by
  have hb' := hb
  obtain ⟨s, rfl, a, L, cap, rfl, hL, hcap, ⟨hmax, hnil⟩, hmail⟩ := hb
  obtain ⟨w1, hw1⟩ : ∃ w1, w1 = (w.alloc (.cells #[.int .i64 b.next, .slice a L cap] 29)).alloc (.cells #[.int .i64 0, .slice none 0 0] 29) := ⟨_, rfl⟩
  have bel1 : Below w.heap.size w w1 := by rw [hw1]; go_grown
  have h0 : w1.heap[w.heap.size]? = some (.cells #[.int .i64 b.next, .slice a L cap] 29 (0, 0)) := by
    rw [hw1, Below.heap_alloc _ _ _ (by simp)]; exact heap_alloc_new w _
  have h1 : w1.heap[w.heap.size + 1]? = some (.cells #[.int .i64 0, .slice none 0 0] 29 (0, 0)) := by
    rw [hw1]; have := heap_alloc_new (w.alloc (.cells #[.int .i64 b.next, .slice a L cap] 29)) (.cells #[.int .i64 0, .slice none 0 0] 29); simpa using this
  have hsz : w.heap.size + 2 ≤ w1.heap.size := by rw [hw1]; simp
  have HW := Lib.hid hw1
  have K := specBoxValid_any b (.agg #[.int .i64 b.next, .slice a L cap]) w1 (hb'.below bel1)
  have HK := Lib.hid K
  have HL := Lib.hid hL
  clear hb' hnil hw1 K hL
  go_enter Try.func45, Try.ntmps45
  go_wp2_with fail
  rw [← HW.out]
  refine HK.out.mono ?_
  rintro e w2 ⟨rfl, q2⟩
  have g0 := (q2.block _ (by omega)).trans h0
  have g1 := (q2.block _ (by omega)).trans h1
  have bel2 := bel1.trans (q2.mono bel1.size)
  have z0 : w.heap.size < w2.heap.size := by have := q2.size; omega
  have z1 : w.heap.size + 1 < w2.heap.size := by have := q2.size; omega
  clear h0 h1 bel1 q2 HK HW
  obtain ⟨c0, c1, _, _⟩ := two_cells g0
  obtain ⟨c2, c3, f2, f3⟩ := two_cells g1
  rcases hbk : bok b with _ | _
  · have hr : expunge b = (nobox, []) := by simp [expunge, hbk]
    have HR := Lib.hid hr
    clear g0 g1 hr hbk
    go_wp2_with fail
    refine bodyPost_ret (v := .tuple #[.agg #[.int .i64 0, .slice none 0 0], .slice (some ⟨w2.heap.size, 0, none⟩) 0 0]) (by simp [results, Try.results45, go_sem, *]) rfl ⟨_, _, by rw [HR.out]; rfl, ?_, ?_, ?_⟩
    · rw [HR.out]; exact World.ownsRow_nil _ _ _ _
    · rw [HR.out]
      have := World.ownsRow_made (base := w.heap.size) (e := 3) (size := 1) ((w2.setCell ⟨w.heap.size + 1, 0, none⟩ (.int .i64 0)).setCell ⟨w.heap.size + 1, 1, none⟩ (.slice none 0 0)) #[] 0 (by simp; omega) (by unfold maxLen; omega) rfl
      unfold OwnInts
      simpa using this
    · go_grown
  · have hr : expunge b = (⟨b.next, (exTo b.mail).1⟩, (exTo b.mail).2) := by simp [expunge, hbk]
    have HR := Lib.hid hr
    have hmok := bok_mok hbk
    have HM := Lib.hid hmok
    have hl10 := (bok_next hbk).2.2
    have hL10 : L ≤ 10 := by rw [← HL.out]; exact hl10
    clear hr hbk hmok hl10
    go_wp2_with fail
    obtain ⟨w3, hw3⟩ : ∃ w3, w3 = ((w2.alloc (.cells #[] 47)).alloc (.cells #[.int .i64 b.next, .slice (some ⟨w2.heap.size, 0, none⟩) 0 0] 29)).alloc (.cells #[] 3) := ⟨_, rfl⟩
    rw [← hw3]
    have o1 : w3.ownsRow w2.heap.size 47 3 (.slice (some ⟨w2.heap.size, 0, none⟩) 0 0) 0 [] := by
      rw [hw3]
      exact ((World.ownsRow_made (base := w2.heap.size) (e := 47) (size := 3) w2 #[] 0 (Nat.le_refl _) (by unfold maxLen; omega) rfl).alloc _).alloc _
    have o2 : w3.ownsRow w2.heap.size 3 1 (.slice (some ⟨w2.heap.size + 1 + 1, 0, none⟩) 0 0) 0 [] := by
      have := World.ownsRow_made (base := w2.heap.size) (e := 3) (size := 1) ((w2.alloc (.cells #[] 47)).alloc (.cells #[.int .i64 b.next, .slice (some ⟨w2.heap.size, 0, none⟩) 0 0] 29)) #[] 0 (by simp; omega) (by unfold maxLen; omega) rfl
      rw [hw3]; simpa using this
    have o3 : w3.heap[w2.heap.size + 1]? = some (.cells #[.int .i64 b.next, .slice (some ⟨w2.heap.size, 0, none⟩) 0 0] 29 (0, 0)) := by
      rw [hw3, Below.heap_alloc _ _ _ (by simp)]
      have := heap_alloc_new (w2.alloc (.cells #[] 47)) (.cells #[.int .i64 b.next, .slice (some ⟨w2.heap.size, 0, none⟩) 0 0] 29)
      simpa using this
    have bel3 : Below w2.heap.size w2 w3 := by rw [hw3]; go_grown
    have z3 : w2.heap.size + 1 < w3.heap.size := by rw [hw3]; simp
    clear hw3
    obtain ⟨i0, hi, hz0, hz1, hz2⟩ := info_parts Try.infoMail
    obtain ⟨j0, hj, hy0, hy1, hy2⟩ := info_parts Try.infoInt
    have H1 := Lib.hid g1
    clear g0 g1 c0 c2 c3 f2 f3
    go_loopw [5, 6] (fun gv i wr => ∃ (n kn gn go oc gg gc : Nat) (ks : List M) (gs : List Int), n ≤ L ∧ i = .int .i64 n ∧ gv = .slice (some ⟨gg, 0, none⟩) gn gc ∧ kn ≤ n ∧ gn ≤ n ∧ Hid (exTo (b.mail.take n) = (ks, gs)) ∧ Hid (ks.length = kn) ∧
      Hid (wr.heap[w2.heap.size + 1]? = some (.cells #[.int .i64 b.next, .slice (some ⟨go, 0, none⟩) kn oc] 29 (0, 0))) ∧ Hid (wr.ownsRow w2.heap.size 47 3 (.slice (some ⟨go, 0, none⟩) kn oc) kn (rowOf ks)) ∧
      Hid (wr.ownsRow w2.heap.size 3 1 (.slice (some ⟨gg, 0, none⟩) gn gc) gn (gs.map (Value.int .i64))) ∧ Below w2.heap.size w2 wr) (fun _ i _ => L - (intOf i).toNat)
    case atStart => exact ⟨0, 0, 0, _, _, _, _, [], [], by omega, rfl, rfl, by omega, by omega, rfl, rfl, o3, o1, o2, bel3⟩
    case round =>
      obtain ⟨n, kn, gn, go, oc, gg, gc, ks, gs, hnL, rfl, rfl, hkn, hgn, HE, HK, B1, R1, R2, hq⟩ := hrel
      clear o1 o2 o3 bel3
      have d1 := (hq.cell (p := ⟨w.heap.size, 1, none⟩) (by show w.heap.size < _; omega)).trans c1
      clear c1
      by_cases hlt : n < L
      · rcases hmail with h0 | ⟨g, off, rfl, hg, hcells⟩
        · omega
        have hlt' : n < b.mail.length := by rw [HL.out]; exact hlt
        have hme := List.getElem?_eq_getElem hlt'
        obtain ⟨e0', e1', e2'⟩ := hcells n _ hme
        have hok := HM.out _ (List.getElem_mem hlt')
        have hstep : exTo (b.mail.take (n + 1)) = exStep (ks, gs) b.mail[n] := by rw [take_one hlt', exTo_snoc, HE.out]
        obtain ⟨m, hm⟩ : ∃ m, b.mail[n] = m := ⟨_, rfl⟩
        rw [hm] at e0' e1' e2' hok hstep
        have k : ∀ o v, w.cell? ⟨g, o, none⟩ = some v → wr.cell? ⟨g, o, none⟩ = some v := fun o v h => (hq.cell (p := ⟨g, o, none⟩) (by show g < _; omega)).trans ((bel2.cell (p := ⟨g, o, none⟩) hg).trans h)
        have e0 := k _ _ e0'
        have e1 := k _ _ e1'
        have e2 := k _ _ e2'
        have hfl := (fok_iff _).1 (mok_flags hok)
        obtain ⟨u, f, t⟩ := m
        dsimp only at e0 e1 e2 hfl hok hstep
        obtain ⟨f, rfl⟩ := Int.eq_ofNat_of_zero_le hfl.1
        obtain ⟨x0, x1, x2, x3⟩ := two_cells B1.out
        have HS := Lib.hid hstep
        have hgo := World.ownsRow.lt R1.out go rfl
        have hgg := World.ownsRow.lt R2.out gg rfl
        clear k hcells hm hme hok hstep e0' e1' e2'
        rcases mod2_cases f 8 with ⟨m1, y1⟩ | ⟨m1, y1⟩
        · have hd : exStep (ks, gs) ⟨u, (f : Int), t⟩ = (ks ++ [⟨u, (f : Int), t⟩], gs) := by simp [exStep, del, y1]
          rw [hd] at HS
          have m1' : (f : Int) / 8 % 2 = 0 := m1
          clear hd m1 y1
          have ln0 : (0 : Int) ≤ (n : Int) := Int.natCast_nonneg _
          have ln1 : (n : Int) < (L : Int) := by omega
          have hown : (wr.alloc (.cells #[.int .i64 u, .int .i64 f, .string t] 47)).drew.ownsRow w2.heap.size 47 3 (.slice (some ⟨go, 0, none⟩) kn oc) kn (rowOf ks) := (R1.out.alloc _).drew
          have hbl : (wr.alloc (.cells #[.int .i64 u, .int .i64 f, .string t] 47)).drew.heap[w2.heap.size + 1]? = some (.cells #[.int .i64 b.next, .slice (some ⟨go, 0, none⟩) kn oc] 29 (0, 0)) := (Below.heap_alloc wr _ _ (lt_of_block B1.out)).trans B1.out
          have hq2 : Below w2.heap.size w2 (wr.alloc (.cells #[.int .i64 u, .int .i64 f, .string t] 47)).drew := (hq.alloc hq.size _).drew
          have HO := Lib.hid hown; have HB := Lib.hid hbl; have HQ := Lib.hid hq2
          clear hown hbl hq2
          have y1 := lt_of_block B1.out
          have y2 : w.heap.size < wr.heap.size := by omega
          have y3 : g < wr.heap.size := by omega
          go_wp2_with fail
          go_region_law ((refine step_append_lies _ (by rfl) _ _ _ (by rfl) w2.heap.size 47 i0 _ 3 32 Try.underlying27 hi hz0 hz1 hz2 rfl (by omega) _ kn (rowOf ks) (by rfl) HO.out ⟨wr.heap.size, 0, none⟩ 1 1 [.int .i64 u, .int .i64 f, .string t] (by rfl) (by rfl) (World.news_of_block (cs := #[.int .i64 u, .int .i64 f, .string t]) (t := 47) (fr := (0, 0)) (heap_alloc_new wr _)) (by simp [Value.oneCell']) (by omega) (by unfold maxLen; omega) (by omega) (by have := hq.size; simp; omega) (wr.heap.size + 1) (by simp) ?_; intro go' oc' w4 hown4 hgrow hat hlt4; have hb4 := block_kept HB.out (by decide) HO.out hgrow; obtain ⟨t0, t1, t2, t3⟩ := two_cells hb4; have RB4 := Lib.hid hb4; have RO4 := Lib.hid hown4; have RG4 := Lib.hid hgrow; clear hb4 hown4 hgrow hat))
          all_goals
            have r1 : (w4.setCell ⟨w2.heap.size + 1, 1, none⟩ (.slice (some ⟨go', 0, none⟩) (kn + 1) oc')).ownsRow w2.heap.size 47 3 (.slice (some ⟨go', 0, none⟩) (kn + 1) oc') (kn + 1) (rowOf (ks ++ [⟨u, (f : Int), t⟩])) := by
              rw [rowOf_append]; exact row_set RO4.out RB4.out (by decide) 1 _
            have r2 : (w4.setCell ⟨w2.heap.size + 1, 1, none⟩ (.slice (some ⟨go', 0, none⟩) (kn + 1) oc')).ownsRow w2.heap.size 3 1 (.slice (some ⟨gg, 0, none⟩) gn gc) gn (gs.map (Value.int .i64)) :=
              row_set (row_kept (R2.out.alloc _).drew HO.out (by decide) RG4.out) RB4.out (by decide) 1 _
            have b2 := set_one (u := .slice (some ⟨go', 0, none⟩) (kn + 1) oc') RB4.out
            have q4 : Below w2.heap.size w2 (w4.setCell ⟨w2.heap.size + 1, 1, none⟩ (.slice (some ⟨go', 0, none⟩) (kn + 1) oc')) :=
              (HQ.out.grown RG4.out (by have := hq.size; show _ ≤ (wr.alloc _).heap.size; simp; omega) (fun k hk => by simp [Value.ownBlock] at hk; omega)).setCell (by show w2.heap.size ≤ w2.heap.size + 1; omega) _
            have hkl : (ks ++ [(⟨u, (f : Int), t⟩ : M)]).length = kn + 1 := by rw [List.length_append, HK.out]; rfl
            have RR1 := Lib.hid r1; have RR2 := Lib.hid r2; have RB := Lib.hid b2; have RK := Lib.hid hkl
            clear r1 r2 b2 hkl
            go_wp2_with fail
            go_roundw
            case rel => exact ⟨n + 1, kn + 1, gn, go', oc', gg, gc, _, gs, by omega, by go_num, rfl, by omega, by omega, HS.out, RK.out, RB.out, RR1.out, RR2.out, q4⟩
            case measure => simp [intOf]; omega
        · have hd : exStep (ks, gs) ⟨u, (f : Int), t⟩ = (ks, gs ++ [((kn : Nat) : Int) + 1]) := by simp [exStep, del, y1, HK.out]
          rw [hd] at HS
          have m1' : (f : Int) / 8 % 2 = 1 := m1
          clear hd m1 y1
          have hown : (wr.alloc (.cells #[.int .i64 ((kn : Int) + 1)] 3)).ownsRow w2.heap.size 3 1 (.slice (some ⟨gg, 0, none⟩) gn gc) gn (gs.map (Value.int .i64)) := R2.out.alloc _
          have HO := Lib.hid hown
          clear hown
          go_wp2_with (at_builtin; refine wpList_append_lies _ rfl _ _ _ rfl w2.heap.size 3 j0 (.int .i64 0) 1 8 Try.underlying25 hj hy0 hy1 hy2 rfl (by omega) _ gn _ rfl HO.out ⟨wr.heap.size, 0, none⟩ 1 1 [.int .i64 ((kn : Int) + 1)] rfl rfl (cell_one_new _ _ _) (by simp [Value.oneCell']) (by omega) (by unfold maxLen; omega) (by omega) (by have := hq.size; simp; omega) (wr.heap.size + 1) (by simp) ?_)
          intro gg' gc' w4 hown4 hgrow hat hlt4
          have r1 := row_kept (R1.out.alloc _) HO.out (by decide) hgrow
          have b1 := block_kept ((Below.heap_alloc wr _ _ (lt_of_block B1.out)).trans B1.out) (by decide) HO.out hgrow
          have q4 : Below w2.heap.size w2 w4 := (hq.alloc hq.size _).grown hgrow (by have := hq.size; simp; omega) (fun k hk => by simp [Value.ownBlock] at hk; omega)
          have r2 : w4.ownsRow w2.heap.size 3 1 (.slice (some ⟨gg', 0, none⟩) (gn + 1) gc') (gn + 1) ((gs ++ [((kn : Nat) : Int) + 1]).map (Value.int .i64)) := by simpa using hown4
          have RR1 := Lib.hid r1; have RB1 := Lib.hid b1; have RR2 := Lib.hid r2
          clear r1 b1 r2 hown4 hgrow hat
          go_wp2_with fail
          go_roundw
          case rel => exact ⟨n + 1, kn, gn + 1, go, oc, gg', gc', ks, gs ++ [((kn : Nat) : Int) + 1], by omega, by go_num, rfl, by omega, by omega, HS.out, HK.out, RB1.out, RR1.out, RR2.out, q4⟩
          case measure => simp [intOf]; omega
      · have hn : n = L := by omega
        subst hn
        have hE : exTo b.mail = (ks, gs) := by rw [← HE.out, ← HL.out, List.take_length]
        have HR2 : Hid (expunge b = (⟨b.next, ks⟩, gs)) := by show _ = _; rw [HR.out, hE]
        obtain ⟨x0, x1, x2, x3⟩ := two_cells B1.out
        have b1 := (hq.block _ z1).trans H1.out
        obtain ⟨c2, c3, f2, f3⟩ := two_cells b1
        have y0 : w.heap.size + 1 < wr.heap.size := by have := hq.size; omega
        have q4 := bel2.trans (hq.mono bel2.size)
        clear hE b1 hmail
        go_wp2_with fail
        refine bodyPost_ret (v := .tuple #[.agg #[.int .i64 b.next, .slice (some ⟨go, 0, none⟩) kn oc], .slice (some ⟨gg, 0, none⟩) gn gc]) (by simp [results, Try.results45, go_sem, *]) rfl ⟨_, _, by rw [HR2.out], ?_, ?_, ?_⟩
        · rw [HR2.out]
          refine Own.more (base := w2.heap.size) ?_ (by omega)
          unfold Own
          dsimp only
          rw [HK.out]
          exact ownsRow_setCell_below (ownsRow_setCell_below R1.out z1 _) z1 _
        · rw [HR2.out]
          refine OwnInts.more (base := w2.heap.size) ?_ (by omega)
          unfold OwnInts
          dsimp only
          have hgl : gs.length = gn := by have := R2.out.1; simpa using this
          rw [hgl]
          exact ownsRow_setCell_below (ownsRow_setCell_below R2.out z1 _) z1 _
        · go_grown
end Go.Proofs.Ytpahgjideppmoaa

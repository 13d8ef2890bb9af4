/- WALKS: the places that a key finds, by the program and by the reference. -/
import Derived.Test.YtlkfaamjbecieaaDoorSNode
import Derived.Test.YtlkfaamjbecieaaDoorSFinds
import Derived.Test.YtlkfaamjbecieaaDoorKTree
import Derived.Test.YtlkfaamjbecieaaDoorDrawSet
namespace Go.Proofs.YtlkfaamjbecieaaDoor
open Go.RowKit
set_option linter.unusedVariables false

theorem search_end {w : World} {base g k cap : Nat} {l xs : List Int} (h : w.ownsRow base 3 1 (.slice (some ⟨g, 0, none⟩) k cap) k (xs.map (Value.int .i64))) (he : xs = l) {W : World} (q : Below W.heap.size W w) :
    ∃ g' cap', Ending.returned (.slice (some ⟨g, 0, none⟩) k cap) = .returned (.slice (some ⟨g', 0, none⟩) l.length cap') ∧ OwnInts w base (.slice (some ⟨g', 0, none⟩) l.length cap') l ∧ Below W.heap.size W w := by
  subst he
  obtain ⟨h1, h2⟩ := OwnInts.mk h
  exact ⟨g, cap, by rw [h2], by rw [h2]; exact h1, q⟩
/-- The places, in a row that the call makes. -/
def Places (w : World) (l : List Int) (e : Ending) (w' : World) : Prop :=
  ∃ g cap, e = .returned (.slice (some ⟨g, 0, none⟩) l.length cap) ∧ OwnInts w' w.heap.size (.slice (some ⟨g, 0, none⟩) l.length cap) l ∧ Below w.heap.size w w'
set_option maxRecDepth 100000 in
set_option maxHeartbeats 1000000 in
theorem implSearchBox_any (b : B) (k : K) (bv kv : Value) (S : Nat → Prop) (w : World) (hb : BoxAt w bv b) (hk : KeyAt w S k kv) (hN : Ins S w) (hF : k.Fit) (hNa : Names w) (hMI : MaxInt w) :
    Calls Tryd.prog 14 #[bv, kv] w (Places w (searchOf b k)) := by
  have hbox := hb
  have hkey := hk
  obtain ⟨s, rfl, a, L, cap, rfl, hL, hcap, _, _⟩ := hb
  obtain ⟨sa, sn, sc, ka, kn, kc, rfl, _⟩ := hk.open
  obtain ⟨j0, hj, hy0, hy1, hy2⟩ := info_parts Tryd.infoInt
  obtain ⟨w1, hw1⟩ : ∃ w1, w1 = ((w.alloc (.cells #[.int .i64 b.next, .slice a L cap] 25)).alloc (.cells #[.int .i64 k.kind, .int .i64 k.flag, .string k.text, .slice sa sn sc, .slice ka kn kc] 29)).alloc (.cells #[] 3) := ⟨_, rfl⟩
  have bel1 : Below w.heap.size w w1 := by rw [hw1]; go_grown
  have hx1 : w1.heap[w.heap.size]? = some (.cells #[.int .i64 b.next, .slice a L cap] 25 (0, 0)) := by
    rw [hw1, Below.heap_alloc _ _ _ (by simp; omega), Below.heap_alloc _ _ _ (by simp)]; exact heap_alloc_new w _
  have ho : w1.ownsRow w.heap.size 3 1 (.slice (some ⟨w.heap.size + 2, 0, none⟩) 0 0) 0 (([] : List Int).map (Value.int .i64)) := by
    have := World.ownsRow_made (base := w.heap.size) (e := 3) (size := 1) ((w.alloc (.cells #[.int .i64 b.next, .slice a L cap] 25)).alloc (.cells #[.int .i64 k.kind, .int .i64 k.flag, .string k.text, .slice sa sn sc, .slice ka kn kc] 29)) #[] 0 (by simp; omega) (by unfold maxLen; omega) rfl
    rw [hw1]; simpa using this
  have HW := Lib.hid hw1; have HX := Lib.hid hx1; have HO := Lib.hid ho; have HB := Lib.hid hbox; have HL := Lib.hid hL
  have hT := keyTree_any k _ S w1 (hkey.below hN bel1) (hN.below bel1) hF (hNa.below bel1)
  have HT := Lib.hid hT
  clear hw1 hx1 ho hbox hL hk hkey hT
  go_enter Tryd.func14, Tryd.ntmps14
  go_wp2_with fail
  rw [← HW.out]
  refine HT.out.mono ?_
  rintro e w2 ⟨nd, rfl, q2, hnd⟩
  have hx2 := (q2.block _ (lt_of_block HX.out)).trans HX.out
  have ho2 : w2.ownsRow w.heap.size 3 1 (.slice (some ⟨w.heap.size + 2, 0, none⟩) 0 0) 0 (([] : List Int).map (Value.int .i64)) := World.ownsRow.kept (row := none) HO.out ⟨q2.os, q2.tape, q2.output, q2.size, fun k hk _ => q2.block k hk⟩ (by simp [Value.ownBlock])
  have bel2 := bel1.trans (q2.mono bel1.size)
  replace HX := Lib.hid hx2
  replace HO := Lib.hid ho2
  have HND := Lib.hid hnd
  obtain ⟨c0, c1, f0, f1⟩ := two_cells hx2
  clear HW HT q2 hx2 ho2 hnd bel1 f0 f1
  rcases hok : keyOk k with _ | _
  · have hr : [] = searchOf b k := (search_no hok).symm
    have HR := Lib.hid hr
    clear hr hok
    go_wp2_with fail
    go_ret
    exact search_end HO.out HR.out bel2
  · have hn2 := HND.out hok
    have ha : k.allOk = true := ((keyOk_split k).1 hok).1
    have HN2 := Lib.hid hn2; have HA := Lib.hid ha; have HOK := Lib.hid hok
    have hB := implBoxValid_any b (.agg #[.int .i64 b.next, .slice a L cap]) w2 (HB.out.below bel2)
    have HBV := Lib.hid hB
    clear hok hn2 ha HND hB
    go_wp2_with fail
    refine HBV.out.mono ?_
    rintro e w3 ⟨rfl, q3⟩
    have hx3 := (q3.block _ (lt_of_block HX.out)).trans HX.out
    have ho3 : w3.ownsRow w.heap.size 3 1 (.slice (some ⟨w.heap.size + 2, 0, none⟩) 0 0) 0 (([] : List Int).map (Value.int .i64)) := World.ownsRow.kept (row := none) HO.out ⟨q3.os, q3.tape, q3.output, q3.size, fun k hk _ => q3.block k hk⟩ (by simp [Value.ownBlock])
    have bel3 := bel2.trans (q3.mono bel2.size)
    have hnd3 : NodeAt w3 S k nd := HN2.out.below (hN.below bel2) q3
    replace HX := Lib.hid hx3
    replace HO := Lib.hid ho3
    replace HN2 := Lib.hid hnd3
    clear c0 c1
    obtain ⟨c0, c1, f0, f1⟩ := two_cells hx3
    clear q3 hx3 ho3 hnd3 bel2 HBV f0 f1
    rcases hbk : bok b with _ | _
    · have hr : [] = searchOf b k := by simp [searchOf, hbk]
      have HR := Lib.hid hr
      clear hr hbk
      go_wp2_with fail
      go_ret
      exact search_end HO.out HR.out bel3
    · have hr : placesTo b k L = searchOf b k := by rw [search_yes hbk HOK.out, HL.out]
      have hl10 := (bok_next hbk).2.2
      have hK := keyFinds_any b hbk k (.agg #[.int .i64 b.next, .slice a L cap]) nd S w3 HN2.out (hN.below bel3) (HB.out.below bel3) HA.out (hMI.below bel3)
      rw [HL.out] at hl10 hK
      have HR := Lib.hid hr; have HKF := Lib.hid hK
      clear hr hbk hK HN2
      go_wp2_with fail
      refine HKF.out.mono ?_
      rintro e w4 ⟨fg, rfl, hg1, hg2, q4⟩
      have ho4 : w4.ownsRow w.heap.size 3 1 (.slice (some ⟨w.heap.size + 2, 0, none⟩) 0 0) 0 (([] : List Int).map (Value.int .i64)) := World.ownsRow.kept (row := none) HO.out ⟨q4.os, q4.tape, q4.output, q4.size, fun k hk _ => q4.block k hk⟩ (by simp [Value.ownBlock])
      have bel4 := bel3.trans (q4.mono bel3.size)
      replace HO := Lib.hid ho4
      have HG := Lib.hid hg2
      clear q4 ho4 hg1 hg2 bel3 HKF HX c0 c1
      go_wp2_with fail
      go_loopg [5, 28] L (fun gk ps i wr => ∃ (n k' cp g : Nat) (xs : List Int), n + gk = L ∧ k' ≤ n ∧ ps = .slice (some ⟨g, 0, none⟩) k' cp ∧ i = .int .i64 n ∧ Hid (placesTo b k n = xs) ∧ Hid (wr.ownsRow w.heap.size 3 1 (.slice (some ⟨g, 0, none⟩) k' cp) k' (xs.map (Value.int .i64))) ∧ Hid (wr.heap[fg]? = some (.cells (Bools (found b k) L) 4 (0, 0))) ∧ Below w.heap.size w wr)
      case atStart => exact ⟨0, 0, 0, _, [], by omega, by omega, rfl, rfl, rfl, HO.out, HG.out, bel4⟩
      case round =>
        clear HO HG bel4
        obtain ⟨n, k', cp, g, xs, hn, hkn, rfl, rfl, HE, HRW, HG, hq⟩ := hrel
        by_cases hlt : n < L
        · obtain ⟨y0, y1⟩ := Bools.cell HG.out hlt
          have hs := placesTo_succ b k n
          rw [HE.out] at hs
          have hnI : (n : Int) < (L : Int) := by omega
          rcases hf : found b k n with _ | _
          · rw [hf] at y0 hs
            rw [if_neg (by decide), List.append_nil] at hs
            have HS2 := Lib.hid hs
            clear hs hf y1
            go_wp2_with fail
            go_roundg (gk - 1)
            case measure => omega
            case rel => exact ⟨n + 1, k', cp, g, xs, by omega, by omega, rfl, by go_num, HS2.out, HRW.out, HG.out, hq⟩
          · rw [hf] at y0 hs
            rw [if_pos rfl] at hs
            have HS2 := Lib.hid hs
            have hown : (wr.alloc (.cells #[.int .i64 ((n : Int) + 1)] 3)).ownsRow w.heap.size 3 1 (.slice (some ⟨g, 0, none⟩) k' cp) k' (xs.map (Value.int .i64)) := HRW.out.alloc _
            have HO := Lib.hid hown
            have HGA := Lib.hid ((Below.heap_alloc wr (.cells #[.int .i64 ((n : Int) + 1)] 3) _ (lt_of_block HG.out)).trans HG.out)
            clear hs hf hown y1
            go_wp2_with (at_builtin; refine wpList_append_lies _ rfl _ _ _ rfl w.heap.size 3 j0 (.int .i64 0) 1 8 Tryd.underlying32 hj hy0 hy1 hy2 rfl (by omega) _ k' _ rfl HO.out ⟨wr.heap.size, 0, none⟩ 1 1 [.int .i64 ((n : Int) + 1)] rfl rfl (cell_one_new _ _ _) (by simp [Value.oneCell']) (by omega) (by unfold maxLen; omega) (by omega) (by have := hq.size; simp; omega) (wr.heap.size + 1) (by simp) ?_)
            intro g2 cap2 w5 hown5 hgrow hat hlt5
            have q5 : Below w.heap.size w w5 := (hq.alloc hq.size _).grown hgrow (by have := hq.size; simp; omega) (fun k hk => by simp [Value.ownBlock] at hk; have := row_base HO.out; omega)
            have r5 : w5.ownsRow w.heap.size 3 1 (.slice (some ⟨g2, 0, none⟩) (k' + 1) cap2) (k' + 1) ((xs ++ [(n : Int) + 1]).map (Value.int .i64)) := by rw [List.map_append]; exact hown5
            have hg5 := block_kept HGA.out (by decide) HO.out hgrow
            have R5 := Lib.hid r5; have HG5 := Lib.hid hg5
            clear hown5 hgrow hat r5 HO hg5 y0
            go_wp2_with fail
            go_roundg (gk - 1)
            case measure => omega
            case rel => exact ⟨n + 1, k' + 1, cap2, g2, _, by omega, by omega, rfl, by go_num, HS2.out, R5.out, HG5.out, q5⟩
        · obtain rfl : n = L := by omega
          have he := HE.out.symm.trans HR.out
          have HEE := Lib.hid he
          clear he hlt
          go_wp2_with fail
          go_ret
          exact search_end HRW.out HEE.out hq
set_option maxRecDepth 100000 in
set_option maxHeartbeats 1000000 in
theorem specSearchBox_any (b : B) (k : K) (bv kv : Value) (S : Nat → Prop) (w : World) (hb : BoxAt w bv b) (hk : KeyAt w S k kv) (hN : Ins S w) (hF : k.Fit) (hn9 : k.nodes ≤ 1000000000) :
    Calls Tryd.prog 15 #[bv, kv] w (Places w (searchOf b k)) := by
  have hbox := hb
  have hkey := hk
  obtain ⟨s, rfl, a, L, cap, rfl, hL, hcap, ⟨hmax, _⟩, _⟩ := hb
  obtain ⟨sa, sn, sc, ka, kn, kc, rfl, _⟩ := hk.open
  obtain ⟨j0, hj, hy0, hy1, hy2⟩ := info_parts Tryd.infoInt
  obtain ⟨w1, hw1⟩ : ∃ w1, w1 = ((w.alloc (.cells #[.int .i64 b.next, .slice a L cap] 25)).alloc (.cells #[.int .i64 k.kind, .int .i64 k.flag, .string k.text, .slice sa sn sc, .slice ka kn kc] 29)).alloc (.cells #[] 3) := ⟨_, rfl⟩
  have bel1 : Below w.heap.size w w1 := by rw [hw1]; go_grown
  have hx1 : w1.heap[w.heap.size]? = some (.cells #[.int .i64 b.next, .slice a L cap] 25 (0, 0)) := by
    rw [hw1, Below.heap_alloc _ _ _ (by simp; omega), Below.heap_alloc _ _ _ (by simp)]; exact heap_alloc_new w _
  have hk1 : w1.heap[w.heap.size + 1]? = some (.cells #[.int .i64 k.kind, .int .i64 k.flag, .string k.text, .slice sa sn sc, .slice ka kn kc] 29 (0, 0)) := by
    rw [hw1, Below.heap_alloc _ _ _ (by simp)]
    have := heap_alloc_new (w.alloc (.cells #[.int .i64 b.next, .slice a L cap] 25)) (.cells #[.int .i64 k.kind, .int .i64 k.flag, .string k.text, .slice sa sn sc, .slice ka kn kc] 29)
    simpa using this
  have ho : w1.ownsRow w.heap.size 3 1 (.slice (some ⟨w.heap.size + 2, 0, none⟩) 0 0) 0 (([] : List Int).map (Value.int .i64)) := by
    have := World.ownsRow_made (base := w.heap.size) (e := 3) (size := 1) ((w.alloc (.cells #[.int .i64 b.next, .slice a L cap] 25)).alloc (.cells #[.int .i64 k.kind, .int .i64 k.flag, .string k.text, .slice sa sn sc, .slice ka kn kc] 29)) #[] 0 (by simp; omega) (by unfold maxLen; omega) rfl
    rw [hw1]; simpa using this
  have HW := Lib.hid hw1; have HX := Lib.hid hx1; have HKB := Lib.hid hk1; have HO := Lib.hid ho; have HL := Lib.hid hL
  have HBV := Lib.hid (fun (W : World) (q : Below w.heap.size w W) => specBoxValid_any b (.agg #[.int .i64 b.next, .slice a L cap]) W (hbox.below q))
  have HKV := Lib.hid (fun (W : World) (q : Below w.heap.size w W) => specKeyValid_any k _ S W (hkey.below hN q) (hN.below q) hF hn9)
  clear hw1 hx1 hk1 ho hL hk
  by_cases hboth : bok b = true ∧ keyOk k = true
  · obtain ⟨hbk, hok⟩ := hboth
    have hr : placesTo b k L = searchOf b k := by rw [search_yes hbk hok, HL.out]
    have hl10 := (bok_next hbk).2.2
    have ha : k.allOk = true := ((keyOk_split k).1 hok).1
    rw [HL.out] at hl10
    rw [hbk] at HBV
    rw [hok] at HKV
    have HLF := Lib.hid (fun (W : World) (q : Below w.heap.size w W) (i : Nat) (hi : i < b.mail.length) => l12Finds_any b hbk k (.agg #[.int .i64 b.next, .slice a L cap]) _ S W i (hkey.below hN q) (hN.below q) (hbox.below q) ha hi)
    have HR := Lib.hid hr
    clear hr hbk hok ha hbox hkey
    go_enter Tryd.func15, Tryd.ntmps15
    go_wp2_with fail
    rw [← HW.out]
    go_loopg [5, 6] L (fun gk ps i wr => ∃ (n k' cp g : Nat) (xs : List Int), n + gk = L ∧ k' ≤ n ∧ ps = .slice (some ⟨g, 0, none⟩) k' cp ∧ i = .int .i64 n ∧ Hid (placesTo b k n = xs) ∧ Hid (wr.ownsRow w.heap.size 3 1 (.slice (some ⟨g, 0, none⟩) k' cp) k' (xs.map (Value.int .i64))) ∧ Hid (wr.heap[w.heap.size]? = some (.cells #[.int .i64 b.next, .slice a L cap] 25 (0, 0))) ∧ Hid (wr.heap[w.heap.size + 1]? = some (.cells #[.int .i64 k.kind, .int .i64 k.flag, .string k.text, .slice sa sn sc, .slice ka kn kc] 29 (0, 0))) ∧ Below w.heap.size w wr)
    case atStart => exact ⟨0, 0, 0, _, [], by omega, by omega, rfl, rfl, rfl, HO.out, HX.out, HKB.out, bel1⟩
    case round =>
      clear HO HX HKB bel1 HW
      obtain ⟨n, k', cp, g, xs, hn, hkn, rfl, rfl, HE, HRW, HX, HKB, hq⟩ := hrel
      obtain ⟨c0, c1, f0, f1⟩ := two_cells HX.out
      obtain ⟨e0, e1, e2, e3, e4, y0, y1, y2, y3, y4⟩ := five_cells HKB.out
      clear f0 f1 y0 y1 y2 y3 y4
      by_cases hlt : n < L
      · have hlt' : n < b.mail.length := by rw [HL.out]; exact hlt
        have hnI : (n : Int) < (L : Int) := by omega
        have LX := lt_of_block HX.out; have LK := lt_of_block HKB.out
        go_wp2_with fail
        refine (HBV.out wr hq).mono ?_
        rintro e wa ⟨rfl, qa⟩
        have hqa := hq.trans (qa.mono hq.size)
        replace HX := Lib.hid ((qa.block _ LX).trans HX.out)
        replace HKB := Lib.hid ((qa.block _ LK).trans HKB.out)
        replace HRW := Lib.hid (World.ownsRow.kept (row := none) HRW.out ⟨qa.os, qa.tape, qa.output, qa.size, fun k hk _ => qa.block k hk⟩ (by simp [Value.ownBlock]))
        clear c0 c1 e0 e1 e2 e3 e4 qa
        obtain ⟨c0, c1, f0, f1⟩ := two_cells HX.out
        obtain ⟨e0, e1, e2, e3, e4, y0, y1, y2, y3, y4⟩ := five_cells HKB.out
        clear f0 f1 y0 y1 y2 y3 y4
        have LX := lt_of_block HX.out; have LK := lt_of_block HKB.out
        go_wp2_with fail
        refine (HKV.out wa hqa).mono ?_
        rintro e wb ⟨rfl, qb⟩
        have hqb := hqa.trans (qb.mono hqa.size)
        replace HX := Lib.hid ((qb.block _ LX).trans HX.out)
        replace HKB := Lib.hid ((qb.block _ LK).trans HKB.out)
        replace HRW := Lib.hid (World.ownsRow.kept (row := none) HRW.out ⟨qb.os, qb.tape, qb.output, qb.size, fun k hk _ => qb.block k hk⟩ (by simp [Value.ownBlock]))
        clear c0 c1 e0 e1 e2 e3 e4 qb hqa hq
        obtain ⟨c0, c1, f0, f1⟩ := two_cells HX.out
        obtain ⟨e0, e1, e2, e3, e4, y0, y1, y2, y3, y4⟩ := five_cells HKB.out
        clear f0 f1 y0 y1 y2 y3 y4
        have LX := lt_of_block HX.out; have LK := lt_of_block HKB.out
        go_wp2_with fail
        refine (HLF.out wb hqb n hlt').mono ?_
        rintro e wc ⟨rfl, qc⟩
        have hqc := hqb.trans (qc.mono hqb.size)
        replace HX := Lib.hid ((qc.block _ LX).trans HX.out)
        replace HKB := Lib.hid ((qc.block _ LK).trans HKB.out)
        replace HRW := Lib.hid (World.ownsRow.kept (row := none) HRW.out ⟨qc.os, qc.tape, qc.output, qc.size, fun k hk _ => qc.block k hk⟩ (by simp [Value.ownBlock]))
        clear c0 c1 e0 e1 e2 e3 e4 qc hqb
        have hs := placesTo_succ b k n
        rw [HE.out] at hs
        rcases hf : found b k n with _ | _
        · rw [hf] at hs
          rw [if_neg (by decide), List.append_nil] at hs
          have HS2 := Lib.hid hs
          clear hs hf
          go_wp2_with fail
          go_roundg (gk - 1)
          case measure => omega
          case rel => exact ⟨n + 1, k', cp, g, xs, by omega, by omega, rfl, by go_num, HS2.out, HRW.out, HX.out, HKB.out, hqc⟩
        · rw [hf] at hs
          rw [if_pos rfl] at hs
          have HS2 := Lib.hid hs
          have hown : (wc.alloc (.cells #[.int .i64 ((n : Int) + 1)] 3)).ownsRow w.heap.size 3 1 (.slice (some ⟨g, 0, none⟩) k' cp) k' (xs.map (Value.int .i64)) := HRW.out.alloc _
          have HO := Lib.hid hown
          have HXA := Lib.hid ((Below.heap_alloc wc (.cells #[.int .i64 ((n : Int) + 1)] 3) _ (lt_of_block HX.out)).trans HX.out)
          have HKA := Lib.hid ((Below.heap_alloc wc (.cells #[.int .i64 ((n : Int) + 1)] 3) _ (lt_of_block HKB.out)).trans HKB.out)
          clear hs hf hown
          go_wp2_with (at_builtin; refine wpList_append_lies _ rfl _ _ _ rfl w.heap.size 3 j0 (.int .i64 0) 1 8 Tryd.underlying32 hj hy0 hy1 hy2 rfl (by omega) _ k' _ rfl HO.out ⟨wc.heap.size, 0, none⟩ 1 1 [.int .i64 ((n : Int) + 1)] rfl rfl (cell_one_new _ _ _) (by simp [Value.oneCell']) (by omega) (by unfold maxLen; omega) (by omega) (by have := hqc.size; simp; omega) (wc.heap.size + 1) (by simp) ?_)
          intro g2 cap2 w5 hown5 hgrow hat hlt5
          have q5 : Below w.heap.size w w5 := (hqc.alloc hqc.size _).grown hgrow (by have := hqc.size; simp; omega) (fun k hk => by simp [Value.ownBlock] at hk; have := row_base HO.out; omega)
          have r5 : w5.ownsRow w.heap.size 3 1 (.slice (some ⟨g2, 0, none⟩) (k' + 1) cap2) (k' + 1) ((xs ++ [(n : Int) + 1]).map (Value.int .i64)) := by rw [List.map_append]; exact hown5
          have hx5 := block_kept HXA.out (by decide) HO.out hgrow
          have hk5 := block_kept HKA.out (by decide) HO.out hgrow
          have R5 := Lib.hid r5; have HX5 := Lib.hid hx5; have HK5 := Lib.hid hk5
          clear hown5 hgrow hat r5 HO hx5 hk5
          go_wp2_with fail
          go_roundg (gk - 1)
          case measure => omega
          case rel => exact ⟨n + 1, k' + 1, cap2, g2, _, by omega, by omega, rfl, by go_num, HS2.out, R5.out, HX5.out, HK5.out, q5⟩
      · obtain rfl : n = L := by omega
        have he := HE.out.symm.trans HR.out
        have HEE := Lib.hid he
        clear he hlt
        go_wp2_with fail
        go_ret
        exact search_end HRW.out HEE.out hq
  · have hr : [] = searchOf b k := by
      rcases hbk : bok b with _ | _
      · simp [searchOf, hbk]
      · rcases hok : keyOk k with _ | _
        · simp [searchOf, hok]
        · exact absurd ⟨hbk, hok⟩ hboth
    have HR := Lib.hid hr
    clear hr hbox hkey
    go_enter Tryd.func15, Tryd.ntmps15
    go_wp2_with fail
    rw [← HW.out]
    go_loopg [5, 6] 1 (fun gk ps i wr => ps = .slice (some ⟨w.heap.size + 2, 0, none⟩) 0 0 ∧ i = .int .i64 0 ∧ Hid (wr.ownsRow w.heap.size 3 1 (.slice (some ⟨w.heap.size + 2, 0, none⟩) 0 0) 0 (([] : List Int).map (Value.int .i64))) ∧ Hid (wr.heap[w.heap.size]? = some (.cells #[.int .i64 b.next, .slice a L cap] 25 (0, 0))) ∧ Hid (wr.heap[w.heap.size + 1]? = some (.cells #[.int .i64 k.kind, .int .i64 k.flag, .string k.text, .slice sa sn sc, .slice ka kn kc] 29 (0, 0))) ∧ Below w.heap.size w wr)
    case atStart => exact ⟨rfl, rfl, HO.out, HX.out, HKB.out, bel1⟩
    case round =>
      clear HO HX HKB bel1 HW
      obtain ⟨rfl, rfl, HO, HX, HKB, hq⟩ := hrel
      obtain ⟨c0, c1, f0, f1⟩ := two_cells HX.out
      have LX := lt_of_block HX.out; have LK := lt_of_block HKB.out
      clear f0 f1
      by_cases hlt : 0 < L
      · have hnI : (0 : Int) < (L : Int) := by omega
        go_wp2_with fail
        refine (HBV.out wr hq).mono ?_
        rintro e wa ⟨rfl, qa⟩
        have hqa := hq.trans (qa.mono hq.size)
        replace HKB := Lib.hid ((qa.block _ LK).trans HKB.out)
        replace HO := Lib.hid (World.ownsRow.kept (row := none) HO.out ⟨qa.os, qa.tape, qa.output, qa.size, fun k hk _ => qa.block k hk⟩ (by simp [Value.ownBlock]))
        clear c0 c1 qa hq HX
        rcases hbk : bok b with _ | _
        · clear hboth hbk
          go_wp2_with fail
          go_ret
          exact search_end HO.out HR.out hqa
        · have hok : keyOk k = false := by
            rcases hok : keyOk k with _ | _
            · rfl
            · exact absurd ⟨hbk, hok⟩ hboth
          have hkv := HKV.out wa hqa
          rw [hok] at hkv
          have HKW := Lib.hid hkv
          obtain ⟨e0, e1, e2, e3, e4, y0, y1, y2, y3, y4⟩ := five_cells HKB.out
          clear hboth hbk hok y0 y1 y2 y3 y4 hkv HKV
          go_wp2_with fail
          refine HKW.out.mono ?_
          rintro e wb ⟨rfl, qb⟩
          have hqb := hqa.trans (qb.mono hqa.size)
          replace HO := Lib.hid (World.ownsRow.kept (row := none) HO.out ⟨qb.os, qb.tape, qb.output, qb.size, fun k hk _ => qb.block k hk⟩ (by simp [Value.ownBlock]))
          clear e0 e1 e2 e3 e4 qb hqa HKB
          go_wp2_with fail
          go_ret
          exact search_end HO.out HR.out hqb
      · obtain rfl : L = 0 := by omega
        clear hboth
        go_wp2_with fail
        go_ret
        exact search_end HO.out HR.out hq
end Go.Proofs.YtlkfaamjbecieaaDoor

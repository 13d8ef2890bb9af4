/- WALKS: whether a list has a number; which messages have numbers of a list. -/
import Derived.Test.YtlkfaamjbecieaaDoorSame
import Derived.Test.YtlkfaamjbecieaaDoorBox
import Derived.Test.YtlkfaamjbecieaaDoorBoxLaws
import Derived.Test.YtlkfaamjbecieaaDoorList
import Derived.Deep.AppendLies
import Derived.Deep.LoopGhost
namespace Go.Proofs.YtlkfaamjbecieaaDoor
open Go.RowKit
set_option linter.unusedVariables false

theorem has_yes {l : List Int} {n : Nat} {m x : Int} (h : l[n]? = some m) (hx : m = x) : hasB l x = true := by
  subst hx; rw [hasB_mem]; exact List.mem_of_getElem? h
theorem has_no {l : List Int} {n : Nat} {m x : Int} (h : l[n]? = some m) (hx : ¬ m = x) (ht : hasB (l.take n) x = false) : hasB (l.take (n + 1)) x = false := by
  obtain ⟨hn, rfl⟩ := List.getElem?_eq_some_iff.1 h
  rcases hc : hasB (l.take (n + 1)) x with _ | _
  · rfl
  · rw [hasB_mem, List.take_succ_eq_append_getElem hn] at hc
    have hnot : ¬ x ∈ l.take n := fun hm => by rw [(hasB_mem _ _).2 hm] at ht; cases ht
    rcases List.mem_append.1 hc with h1 | h1
    · exact absurd h1 hnot
    · simp at h1; exact absurd h1.symm hx

theorem hasInt_any (l : List Int) (x : Int) (v : Value) (w : World) (h : IntsAt w v l) :
    Calls Tryd.prog 19 #[v, .int .i64 x] w fun e w' => e = .returned (.bool (hasB l x)) ∧ w = w' := by
  obtain ⟨a, L, cap, rfl, hL, hc, ⟨hm, _⟩, hmail⟩ := h
  have HL := Lib.hid hL
  clear hL
  go_enter Tryd.func19, Tryd.ntmps19
  go_wp2_with fail
  go_loop [5] (fun i => ∃ (n : Nat), n ≤ L ∧ i = .int .i64 n ∧ Hid (hasB (l.take n) x = false)) (fun i => L - (intOf i).toNat)
  case atStart => exact ⟨0, by omega, rfl, rfl⟩
  case round =>
    obtain ⟨n, hnL, rfl, HC⟩ := hrel
    by_cases hlt : n < L
    · rcases hmail with h0 | ⟨g, off, rfl, hg, hcells⟩
      · omega
      have hlt' : n < l.length := by rw [HL.out]; exact hlt
      have hm := List.getElem?_eq_getElem hlt'
      generalize l[n] = m at hm
      have c0 := hcells n _ hm
      have hnI : (n : Int) < (L : Int) := by omega
      have HM := Lib.hid hm
      clear hcells hm
      by_cases hx : m = x
      · have hy := has_yes HM.out hx
        have HY := Lib.hid hy
        subst hx
        clear hy
        go_wp2_with fail
        go_ret
        exact ⟨ret_bool HY.out.symm, rfl⟩
      · have hx1 : (m == x) = false := beq_eq_false_iff_ne.2 hx
        have hy := has_no HM.out hx HC.out
        have HY := Lib.hid hy
        clear hy hx
        go_wp2_with fail
        go_round
        case rel => exact ⟨n + 1, by omega, by go_num, HY.out⟩
        case measure => simp [intOf]; omega
    · have : n = L := by omega
      subst this
      have hA : hasB l x = false := by rw [← HC.out, ← HL.out, List.take_length]
      have HA := Lib.hid hA
      clear hmail hA
      go_wp2_with fail
      go_ret
      exact ⟨ret_bool HA.out.symm, rfl⟩
theorem index_any (l : List Int) (x : Int) (v : Value) (w : World) (h : IntsAt w v l) :
    Calls Tryd.prog 59 #[v, .int .i64 x] w fun e w' => (∃ r : Int, e = .returned (.int .i64 r) ∧ decide (0 ≤ r) = hasB l x) ∧ w = w' := by
  obtain ⟨a, L, cap, rfl, hL, hc, ⟨hm, _⟩, hmail⟩ := h
  have HL := Lib.hid hL
  clear hL
  go_enter Tryd.func59, Tryd.ntmps59
  go_wp2_with fail
  go_loop [8] (fun i => ∃ (n : Nat), n ≤ L ∧ i = .int .i64 n ∧ Hid (hasB (l.take n) x = false)) (fun i => L - (intOf i).toNat)
  case atStart => exact ⟨0, by omega, rfl, rfl⟩
  case round =>
    obtain ⟨n, hnL, rfl, HC⟩ := hrel
    by_cases hlt : n < L
    · rcases hmail with h0 | ⟨g, off, rfl, hg, hcells⟩
      · omega
      have hlt' : n < l.length := by rw [HL.out]; exact hlt
      have hm := List.getElem?_eq_getElem hlt'
      generalize l[n] = m at hm
      have c0 := hcells n _ hm
      have hnI : (n : Int) < (L : Int) := by omega
      have HM := Lib.hid hm
      clear hcells hm
      by_cases hx : m = x
      · have hy := has_yes HM.out hx
        have HY := Lib.hid hy
        subst hx
        clear hy
        go_wp2_with fail
        go_ret
        exact ⟨⟨_, rfl, by rw [HY.out]; simp⟩, rfl⟩
      · have hx1 : (x == m) = false := beq_eq_false_iff_ne.2 (fun e => hx e.symm)
        have hy := has_no HM.out hx HC.out
        have HY := Lib.hid hy
        clear hy hx
        go_wp2_with fail
        go_round
        case rel => exact ⟨n + 1, by omega, by go_num, HY.out⟩
        case measure => simp [intOf]; omega
    · have : n = L := by omega
      subst this
      have hA : hasB l x = false := by rw [← HC.out, ← HL.out, List.take_length]
      have HA := Lib.hid hA
      clear hmail hA
      go_wp2_with fail
      go_ret
      exact ⟨⟨_, rfl, by rw [HA.out]; rfl⟩, rfl⟩
theorem contains_any (l : List Int) (x : Int) (v : Value) (w : World) (h : IntsAt w v l) :
    Calls Tryd.prog 43 #[v, .int .i64 x] w fun e w' => e = .returned (.bool (hasB l x)) ∧ w = w' := by
  have h' := h
  obtain ⟨a, L, cap, rfl, _⟩ := h
  have H := Lib.hid h'
  clear h'
  go_enter Tryd.func43, Tryd.ntmps43
  go_wp2_with fail
  refine (index_any l x _ _ H.out).mono ?_
  rintro e w' ⟨⟨r, rfl, hr⟩, rfl⟩
  have HR := Lib.hid hr
  clear hr
  go_wp2_with fail
  go_ret
  exact ⟨ret_bool (by rw [← HR.out]), rfl⟩
theorem range_take (n : Nat) : (List.range' 1 (n + 1)).map (fun k : Nat => (k : Int)) = (List.range' 1 n).map (fun k : Nat => (k : Int)) ++ [(n : Int) + 1] := by
  rw [List.range'_concat]; simp; omega
/-- The numbers from 1 to n. -/
def upList (n : Nat) : List Int := (List.range' 1 n).map (fun k : Nat => (k : Int))
theorem upList_succ (n : Nat) : upList (n + 1) = upList n ++ [(n : Int) + 1] := range_take n
theorem upList_len (n : Nat) : (upList n).length = n := by simp [upList]
/-- A mailbox's places by numbers: what the walks know of the row. -/
theorem OwnInts.mk {w : World} {base g k cap : Nat} {l : List Int} (h : w.ownsRow base 3 1 (.slice (some ⟨g, 0, none⟩) k cap) k (l.map (Value.int .i64))) : OwnInts w base (.slice (some ⟨g, 0, none⟩) k cap) l ∧ l.length = k := by
  have hl : l.length = k := by have := h.1; simpa using this
  exact ⟨by unfold OwnInts; rw [hl]; exact h, hl⟩
set_option maxHeartbeats 800000 in
theorem implBoxUids_any (b : B) (us : List Int) (v vu : Value) (w : World) (hb : BoxAt w v b) (hu : IntsAt w vu us) :
    Calls Tryd.prog 27 #[v, vu] w fun e w' => ∃ g cap, e = .returned (.slice (some ⟨g, 0, none⟩) (uidsOf b us).length cap) ∧ OwnInts w' w.heap.size (.slice (some ⟨g, 0, none⟩) (uidsOf b us).length cap) (uidsOf b us) ∧ Below w.heap.size w w' := by
  have hb' := hb
  obtain ⟨s, rfl, a, L, cap, rfl, hL, hcap, ⟨hmax, hnil⟩, hmail⟩ := hb
  obtain ⟨j0, hj, hy0, hy1, hy2⟩ := info_parts Tryd.infoInt
  obtain ⟨w1, hw1⟩ : ∃ w1, w1 = (w.alloc (.cells #[.int .i64 b.next, .slice a L cap] 25)).alloc (.cells #[] 3) := ⟨_, rfl⟩
  have bel1 : Below w.heap.size w w1 := by rw [hw1]; go_grown
  have h0 : w1.heap[w.heap.size]? = some (.cells #[.int .i64 b.next, .slice a L cap] 25 (0, 0)) := by
    rw [hw1, Below.heap_alloc _ _ _ (by simp)]; exact heap_alloc_new w _
  have ho : w1.ownsRow w.heap.size 3 1 (.slice (some ⟨w.heap.size + 1, 0, none⟩) 0 0) 0 [] := by
    have := World.ownsRow_made (base := w.heap.size) (e := 3) (size := 1) (w.alloc (.cells #[.int .i64 b.next, .slice a L cap] 25)) #[] 0 (by simp) (by unfold maxLen; omega) rfl
    rw [hw1]; simpa using this
  have hsz : w.heap.size + 1 < w1.heap.size := by rw [hw1]; simp
  have HW := Lib.hid hw1
  have K := implBoxValid_any b (.agg #[.int .i64 b.next, .slice a L cap]) w1 (hb'.below bel1)
  have HK := Lib.hid K; have HO := Lib.hid ho; have HL := Lib.hid hL; have HU := Lib.hid hu
  obtain ⟨au, Lu, capu, rfl, _⟩ := hu
  clear hb' hnil hw1 K ho hL
  go_enter Tryd.func27, Tryd.ntmps27
  go_wp2_with fail
  rw [← HW.out]
  refine HK.out.mono ?_
  rintro e w2 ⟨rfl, q2⟩
  have g0 := (q2.block _ (by omega)).trans h0
  have bel2 := bel1.trans (q2.mono bel1.size)
  have z1 := q2.size
  have ho2 : w2.ownsRow w.heap.size 3 1 (.slice (some ⟨w.heap.size + 1, 0, none⟩) 0 0) 0 [] := World.ownsRow.kept (row := none) HO.out ⟨q2.os, q2.tape, q2.output, q2.size, fun k hk _ => q2.block k hk⟩ (by simp [Value.ownBlock])
  replace HO := Lib.hid ho2
  clear h0 q2 HK HW ho2
  obtain ⟨c0, c1, f0, f1⟩ := two_cells g0
  rcases hbk : bok b with _ | _
  · have hr : uidsOf b us = [] := by simp [uidsOf, hbk]
    have HR := Lib.hid hr
    clear hr hmail
    go_wp2_with fail
    go_ret
    exact ⟨_, 0, by rw [HR.out]; rfl, by rw [HR.out]; exact HO.out, bel2⟩
  · have hr : uidsOf b us = uidsTo us b.mail 0 := by simp [uidsOf, hbk]
    have HR := Lib.hid hr
    have hl10 := (bok_next hbk).2.2
    rw [HL.out] at hl10
    clear hr hbk
    go_wp2_with fail
    go_loopg [5, 16] L (fun gk ps i wr => ∃ (n k cp g : Nat) (l : List Int), n + gk = L ∧ k ≤ n ∧ ps = .slice (some ⟨g, 0, none⟩) k cp ∧ i = .int .i64 n ∧ Hid (uidsTo us (b.mail.take n) 0 = l) ∧ Hid (wr.ownsRow w.heap.size 3 1 (.slice (some ⟨g, 0, none⟩) k cp) k (l.map (Value.int .i64))) ∧ Below w.heap.size w wr)
    case atStart => exact ⟨0, 0, 0, _, [], by omega, by omega, rfl, rfl, rfl, HO.out, bel2⟩
    case round =>
      obtain ⟨n, k, cp, g, l, hn, hkn, rfl, rfl, HE, HR2, hq⟩ := hrel
      clear HO bel2 c0 c1 f0 f1 g0
      by_cases hlt : n < L
      · rcases hmail with h0 | ⟨gm, off, rfl, hg, hcells⟩
        · omega
        have hlt' : n < b.mail.length := by rw [HL.out]; exact hlt
        obtain ⟨c0, c1, c2⟩ := hcells n _ (List.getElem?_eq_getElem hlt')
        have kk : ∀ o v, w.cell? ⟨gm, o, none⟩ = some v → wr.cell? ⟨gm, o, none⟩ = some v := fun o v h => (hq.cell (p := ⟨gm, o, none⟩) hg).trans h
        have c0 := kk _ _ c0
        have c1 := kk _ _ c1
        have c2 := kk _ _ c2
        have hst := uidsTo_take us hlt'
        rw [HE.out] at hst
        obtain ⟨m, hm⟩ : ∃ m, b.mail[n] = m := ⟨_, rfl⟩
        rw [hm] at c0 c1 c2 hst
        have HST := Lib.hid hst
        obtain ⟨wm, hwm⟩ : ∃ wm, wm = wr.alloc (.cells #[.int .i64 m.uid, .int .i64 m.flags, .string m.text] 40) := ⟨_, rfl⟩
        have qm : Below wr.heap.size wr wm := by rw [hwm]; exact (Below.refl _ _).alloc (Nat.le_refl _) _
        have hq2 : Below w.heap.size w wm := hq.trans (qm.mono hq.size)
        have ho3 : wm.ownsRow w.heap.size 3 1 (.slice (some ⟨g, 0, none⟩) k cp) k (l.map (Value.int .i64)) := by rw [hwm]; exact HR2.out.alloc _
        have HWM := Lib.hid hwm; have HO3 := Lib.hid ho3
        clear kk hcells hm hst hwm qm ho3 HR2 hq
        go_wp2_with fail
        rw [← HWM.out]
        clear c0 c1 c2
        refine (contains_any us m.uid _ _ (HU.out.below hq2)).mono ?_
        rintro e w' ⟨rfl, rfl⟩
        rcases hc : hasB us m.uid with _ | _
        · have hs2 : uidsTo us (b.mail.take (n + 1)) 0 = l := by rw [HST.out, uidStep, hc]; rfl
          have HS2 := Lib.hid hs2
          clear hs2 HWM HST hc
          go_wp2_with fail
          go_roundg (gk - 1)
          case measure => omega
          case rel => exact ⟨n + 1, k, cp, g, l, by omega, by omega, rfl, by go_num, HS2.out, HO3.out, hq2⟩
        · have hs2 : uidsTo us (b.mail.take (n + 1)) 0 = l ++ [(n : Int) + 1] := by rw [HST.out, uidStep, hc]; rfl
          have HS2 := Lib.hid hs2
          clear hs2 HWM HST hc
          have hown : (wm.alloc (.cells #[.int .i64 ((n : Int) + 1)] 3)).ownsRow w.heap.size 3 1 (.slice (some ⟨g, 0, none⟩) k cp) k (l.map (Value.int .i64)) := HO3.out.alloc _
          have HO := Lib.hid hown
          clear hown
          go_wp2_with (at_builtin; refine wpList_append_lies _ rfl _ _ _ rfl w.heap.size 3 j0 (.int .i64 0) 1 8 Tryd.underlying32 hj hy0 hy1 hy2 rfl (by omega) _ k _ rfl HO.out ⟨wm.heap.size, 0, none⟩ 1 1 [.int .i64 ((n : Int) + 1)] rfl rfl (cell_one_new _ _ _) (by simp [Value.oneCell']) (by omega) (by unfold maxLen; omega) (by omega) (by have := hq2.size; simp; omega) (wm.heap.size + 1) (by simp) ?_)
          intro g2 cap2 w4 hown4 hgrow hat hlt4
          have q4 : Below w.heap.size w w4 := (hq2.alloc hq2.size _).grown hgrow (by have := hq2.size; simp; omega) (fun k hk => by simp [Value.ownBlock] at hk; have := row_base HO.out; omega)
          have r4 : w4.ownsRow w.heap.size 3 1 (.slice (some ⟨g2, 0, none⟩) (k + 1) cap2) (k + 1) ((l ++ [(n : Int) + 1]).map (Value.int .i64)) := by rw [List.map_append]; exact hown4
          have R4 := Lib.hid r4
          clear hown4 hgrow hat r4 HO
          go_wp2_with fail
          go_roundg (gk - 1)
          case measure => omega
          case rel => exact ⟨n + 1, k + 1, cap2, g2, _, by omega, by omega, rfl, by go_num, HS2.out, R4.out, q4⟩
      · obtain rfl : n = L := by omega
        have hA : uidsTo us b.mail 0 = l := by rw [← HE.out, ← HL.out, List.take_length]
        have HA := Lib.hid hA
        clear hmail hA
        obtain ⟨k1, k2⟩ := OwnInts.mk HR2.out
        have K1 := Lib.hid k1; have K2 := Lib.hid k2
        clear k1 k2
        go_wp2_with fail
        go_ret
        exact ⟨g, cp, by rw [HR.out, HA.out, K2.out]; rfl, by rw [HR.out, HA.out, K2.out]; exact K1.out, hq⟩
end Go.Proofs.YtlkfaamjbecieaaDoor

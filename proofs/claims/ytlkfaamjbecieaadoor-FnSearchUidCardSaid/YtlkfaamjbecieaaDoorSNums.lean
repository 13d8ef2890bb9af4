/- WALKS: the numbers of a set, in the program. -/
import Derived.Test.YtlkfaamjbecieaaDoorKNums
import Derived.Test.YtlkfaamjbecieaaDoorKLeaf2
import Derived.Test.YtlkfaamjbecieaaDoorUids
import Derived.Deep.QuietTactic
import Derived.BigQuiet
import Derived.Deep.LoopGhost
import Derived.Deep.DeepCutAuto
import Derived.Laws.Rows
namespace Go.Proofs.YtlkfaamjbecieaaDoor
open Go.RowKit
set_option linter.unusedVariables false

theorem setBound_any (x last : Int) (w : World) : Calls Tryd.prog 41 #[.int .i64 x, .int .i64 last] w fun e w' => e = .returned (.int .i64 (bnd x last)) ∧ w = w' := by
  by_cases h : x = 0
  · have hr : bnd x last = last := by simp [bnd, h]
    have HR := Lib.hid hr
    subst h
    clear hr
    go_enter Tryd.func41, Tryd.ntmps41
    go_wp2_with fail
    go_ret
    exact ⟨ret_int HR.out.symm, rfl⟩
  · have hr : bnd x last = x := by simp [bnd, h]
    have HR := Lib.hid hr
    have h1 : (x == 0) = false := beq_eq_false_iff_ne.2 h
    clear hr h
    go_enter Tryd.func41, Tryd.ntmps41
    go_wp2_with fail
    go_ret
    exact ⟨ret_int HR.out.symm, rfl⟩
/-- A row of a hundred marks. -/
def Marks (f : Nat → Bool) : Array Value := ((List.range 100).map fun n => Value.bool (f n)).toArray
theorem Marks.size (f : Nat → Bool) : (Marks f).size = 100 := by simp [Marks]
theorem Marks.get {f : Nat → Bool} {n : Nat} (h : n < 100) : (Marks f)[n]? = some (.bool (f n)) := by simp [Marks, h]
theorem Marks.set (f : Nat → Bool) (m : Nat) : (Marks f).setIfInBounds m (.bool true) = Marks (fun n => if n = m then true else f n) := by
  apply Array.ext_getElem?
  intro i
  rw [Array.getElem?_setIfInBounds]
  by_cases hi : i < 100
  · rw [Marks.get hi]
    by_cases e : m = i
    · subst e; rw [if_pos rfl, if_pos (by rw [Marks.size]; exact hi), Marks.get hi, if_pos rfl]
    · rw [if_neg e, Marks.get hi, if_neg (fun h => e h.symm)]
  · have n1 : ∀ g, (Marks g)[i]? = none := fun g => by rw [Array.getElem?_eq_none]; rw [Marks.size]; omega
    rw [n1, n1]
    split
    · next e => rw [if_neg (by rw [Marks.size]; omega)]
    · rfl
theorem Marks.ext {f g : Nat → Bool} (h : ∀ n, f n = g n) : Marks f = Marks g := by
  have : f = g := funext h
  rw [this]
theorem Marks.cell {w : World} {b n : Nat} {f : Nat → Bool} {t : TypeId} (h : w.heap[b]? = some (.cells (Marks f) t (0, 0))) (hn : n < 100) : w.cell? ⟨b, n, none⟩ = some (.bool (f n)) ∧ w.frozen? ⟨b, n, none⟩ = false := by
  constructor
  · simp only [World.cell?, h]; exact Marks.get hn
  · simp [World.frozen?, h]
theorem Marks.store {w : World} {b m : Nat} {f : Nat → Bool} {t : TypeId} (h : w.heap[b]? = some (.cells (Marks f) t (0, 0))) : (w.setCell ⟨b, m, none⟩ (.bool true)).heap[b]? = some (.cells (Marks (fun n => if n = m then true else f n)) t (0, 0)) := by
  have hlt := lt_of_block h
  have h' : w.heap[b] = .cells (Marks f) t (0, 0) := by simpa [Array.getElem?_eq_getElem hlt] using h
  show (w.heap.modify b _)[b]? = _
  rw [Array.getElem?_eq_getElem (by simpa using hlt), Array.getElem_modify_self, h', ← Marks.set]
  rfl
theorem set_spans {l : List (Int × Int)} (h : setOk l = true) : ∀ (i : Nat) (hi : i < l.length), 0 ≤ l[i].1 ∧ l[i].1 ≤ 99 ∧ 0 ≤ l[i].2 ∧ l[i].2 ≤ 99 := by
  intro i hi
  unfold setOk at h
  rw [Bool.and_eq_true] at h
  have := List.all_eq_true.1 h.2 _ (List.getElem_mem hi)
  simp [spanOk] at this
  omega
theorem marks_read (f : Nat → Bool) (k : Nat) (hk : k < 100) (w : World) : (Instr.index 64 (.agg (Marks f)) (.int .i64 (k : Int))).run Tryd.prog w = .ok (.bool (f k)) w := by
  have h0 : (0 : Int) ≤ (k : Int) ∧ (k : Int) < 100 := by omega
  have hg := Marks.get (f := f) hk
  simp [Instr.index, run_underlying Tryd.underlying64, asIntOf, h0, go_sem, hg]
  intro h; omega
theorem zero_marks : Marks (fun _ => false) = Tryd.zeroCells64 := by kernel_rfl
theorem setBound_at (x last r : Int) (h : bnd x last = r) (w : World) : Calls Tryd.prog 41 #[.int .i64 x, .int .i64 last] w fun e w' => e = .returned (.int .i64 r) ∧ w' = w := by
  subst h; exact (setBound_any x last w).mono fun _ _ h => ⟨h.1, h.2.symm⟩
set_option maxRecDepth 100000 in
set_option maxHeartbeats 1000000 in
theorem implSetNumbers_any (l : List (Int × Int)) (last : Int) (v : Value) (S : Nat → Prop) (w : World) (h : SetAt w S v l) (hS : Ins S w) :
    Calls Tryd.prog 24 #[v, .int .i64 last] w fun e w' => ∃ g cap, e = .returned (.slice (some ⟨g, 0, none⟩) (numbersOf l last).length cap) ∧ OwnInts w' w.heap.size (.slice (some ⟨g, 0, none⟩) (numbersOf l last).length cap) (numbersOf l last) ∧ Below w.heap.size w w' := by
  have hset := h
  obtain ⟨a, L, cap, rfl, hL, hcap, ⟨hmax, hnil⟩, hmail⟩ := h
  obtain ⟨w1, hw1⟩ : ∃ w1, w1 = w.alloc (.cells #[] 3) := ⟨_, rfl⟩
  have bel1 : Below w.heap.size w w1 := by rw [hw1]; exact (Below.refl _ _).alloc (Nat.le_refl _) _
  have ho : w1.ownsRow w.heap.size 3 1 (.slice (some ⟨w.heap.size, 0, none⟩) 0 0) 0 (([] : List Int).map (Value.int .i64)) := by
    rw [hw1]
    exact World.ownsRow_made (base := w.heap.size) (e := 3) (size := 1) w #[] 0 (Nat.le_refl _) (by unfold maxLen; omega) rfl
  have HW := Lib.hid hw1; have HO := Lib.hid ho; have HL := Lib.hid hL; have HS := Lib.hid hset; have HM := Lib.hid hmail
  clear hw1 ho hL hset hmail
  go_enter Tryd.func24, Tryd.ntmps24
  go_wp2_with fail
  rw [← HW.out]
  refine (implSetValid_any l _ S w1 (HS.out.below hS bel1) (hS.below bel1)).mono ?_
  rintro e w2 ⟨rfl, q2⟩
  have bel2 := bel1.trans (q2.mono bel1.size)
  have ho2 : w2.ownsRow w.heap.size 3 1 (.slice (some ⟨w.heap.size, 0, none⟩) 0 0) 0 (([] : List Int).map (Value.int .i64)) := World.ownsRow.kept (row := none) HO.out ⟨q2.os, q2.tape, q2.output, q2.size, fun k hk _ => q2.block k hk⟩ (by simp [Value.ownBlock])
  replace HO := Lib.hid ho2
  have z1 : w.heap.size < w2.heap.size := by have := q2.size; have h2 : w1.heap.size = w.heap.size + 1 := by rw [HW.out]; simp
                                             omega
  clear ho2 q2 HW bel1
  have hne : numbersOf l last = [] → ∃ g cap, Ending.returned (.slice (some ⟨w.heap.size, 0, none⟩) 0 0) = .returned (.slice (some ⟨g, 0, none⟩) (numbersOf l last).length cap) ∧ OwnInts w2 w.heap.size (.slice (some ⟨g, 0, none⟩) (numbersOf l last).length cap) (numbersOf l last) ∧ Below w.heap.size w w2 := fun e => by
    rw [e]; exact ⟨_, 0, rfl, HO.out, bel2⟩
  have HE := Lib.hid hne
  clear hne
  rcases hok : setOk l with _ | _
  · have hr := numbersOf_no (last := last) hok
    have HR := Lib.hid hr
    clear hr
    go_wp2_with fail
    go_ret
    exact HE.out HR.out
  · by_cases h1 : last < 1
    · have hr := numbersOf_low (s := l) h1
      have HR := Lib.hid hr
      clear hr
      go_wp2_with fail
      go_ret
      exact HE.out HR.out
    · have h1' : (1 : Int) ≤ last := by omega
      have hd : decide (last < 1) = false := decide_eq_false h1
      obtain ⟨mm, hmm⟩ : ∃ mm, min last 99 = mm := ⟨_, rfl⟩
      have m1 : 1 ≤ mm := by omega
      have m2 : mm ≤ 99 := by omega
      have hall := markNums_all (s := l) hmm h1' hok
      have hsp := set_spans hok
      have HMM := Lib.hid hmm; have HALL := Lib.hid hall; have HOK := Lib.hid hok; have HSP := Lib.hid hsp
      have mc1 : last ≤ 99 → mm = last := fun h => by omega
      have mc2 : ¬ last ≤ 99 → mm = 99 := fun h => by omega
      have MC := Lib.hid (And.intro mc1 mc2)
      clear hmm hall hsp mc1 mc2 HE h1
      go_upto_region 4 with fail
      go_cut [1] (fun x wx => x = .int .i64 mm ∧ wx = w2)
      case first =>
        by_cases h9 : last ≤ 99
        · have e9 := MC.out.1 h9
          have E9 := Lib.hid e9
          clear e9
          go_wp2_with fail
          go_meet
          exact ⟨by rw [E9.out], rfl⟩
        · have e9 := MC.out.2 (by omega)
          have E9 := Lib.hid e9
          clear e9
          go_wp2_with fail
          go_meet
          exact ⟨by rw [E9.out], rfl⟩
      case rest =>
        obtain ⟨rfl, rfl⟩ := hcut
        obtain ⟨w3, hw3⟩ : ∃ w3, w3 = wc.alloc (.cells Tryd.zeroCells64 64) := ⟨_, rfl⟩
        have hz3 : w3.heap[wc.heap.size]? = some (.cells (Marks (markOf (l.take 0) mm)) 64 (0, 0)) := by
          rw [hw3, heap_alloc_new, ← zero_marks]
          rw [Marks.ext (g := markOf (l.take 0) mm) (fun n => (markOf_nil mm n).symm)]
        have ho3 : w3.ownsRow w.heap.size 3 1 (.slice (some ⟨w.heap.size, 0, none⟩) 0 0) 0 (([] : List Int).map (Value.int .i64)) := by rw [hw3]; exact HO.out.alloc _
        have bel3 : Below w.heap.size w w3 := by rw [hw3]; exact bel2.alloc bel2.size _
        obtain ⟨mb, hmb⟩ : ∃ mb, wc.heap.size = mb := ⟨_, rfl⟩
        have HW3 := Lib.hid hw3
        rw [hmb] at hz3 z1
        have HZ3 := Lib.hid hz3; have HO3 := Lib.hid ho3; have HMB := Lib.hid hmb
        clear hw3 hz3 ho3 bel2 HO hmb
        go_wp2_with fail
        rw [HMB.out, ← HW3.out]
        clear HW3
        go_loopg [27] L (fun gk i wr => ∃ n : Nat, n + gk = L ∧ i = .int .i64 n ∧ Hid (wr.heap[mb]? = some (.cells (Marks (markOf (l.take n) mm)) 64 (0, 0))) ∧ Hid (wr.ownsRow w.heap.size 3 1 (.slice (some ⟨w.heap.size, 0, none⟩) 0 0) 0 (([] : List Int).map (Value.int .i64))) ∧ Below w.heap.size w wr)
        case atStart => exact ⟨0, by omega, rfl, HZ3.out, HO3.out, bel3⟩
        case round =>
          obtain ⟨n, hn, rfl, HZ, HO, hq⟩ := hrel
          clear HZ3 HO3 bel3
          by_cases hlt : n < L
          · rcases HM.out with h0 | ⟨sb, off, rfl, hsb, hcells⟩
            · omega
            have hlt' : n < l.length := by rw [HL.out]; exact hlt
            have hsb' := hS.lt hsb
            have hs := HSP.out n hlt'
            have hmk := fun lo hi f e h1 h2 h3 h4 h5 m h6 h7 h8 x => mark_end (last := mm) hlt' (lo := lo) (hi := hi) h1 h2 (f := f) (e := e) h3 h4 h5 (m := m) h6 h7 h8 x
            obtain ⟨c0, c1⟩ := hcells n _ (List.getElem?_eq_getElem hlt')
            replace c0 := (hq.cell (p := ⟨sb, _, none⟩) hsb').trans c0
            replace c1 := (hq.cell (p := ⟨sb, _, none⟩) hsb').trans c1
            generalize l[n] = s at c0 c1 hs hmk
            obtain ⟨y, z⟩ := s
            dsimp only at c0 c1 hs hmk
            obtain ⟨s1, s2, s3, s4⟩ := hs
            obtain ⟨lo1, lo2⟩ := bnd_in s1 s2 m1 m2
            obtain ⟨hi1, hi2⟩ := bnd_in s3 s4 m1 m2
            obtain ⟨lo, hlo⟩ : ∃ lo, bnd y mm = lo := ⟨_, rfl⟩
            obtain ⟨hi, hhi⟩ : ∃ hi, bnd z mm = hi := ⟨_, rfl⟩
            rw [hlo] at lo1 lo2
            rw [hhi] at hi1 hi2
            obtain ⟨f, rfl⟩ := Int.eq_ofNat_of_zero_le (show 0 ≤ lo by omega)
            obtain ⟨e, rfl⟩ := Int.eq_ofNat_of_zero_le (show 0 ≤ hi by omega)
            have HMK := Lib.hid (hmk (f : Int) (e : Int))
            have HLO := Lib.hid hlo; have HHI := Lib.hid hhi
            have hnI : (n : Int) < (L : Int) := by omega
            clear hmk hlo hhi hcells
            by_cases hfe : f ≤ e
            · have hfd : decide (e < f) = false := decide_eq_false (by omega)
              have HST := Lib.hid (fun (W : World) (q : Below wr.heap.size wr W) => And.intro ((q.block mb (lt_of_block HZ.out)).trans HZ.out) (And.intro (World.ownsRow.kept (row := none) HO.out ⟨q.os, q.tape, q.output, q.size, fun k hk _ => q.block k hk⟩ (by simp [Value.ownBlock])) (hq.trans (q.mono hq.size))))
              go_wp2_with fail
              go_quiet (first | (go_at_call 41; exact Calls.quiet_of_same (setBound_at y mm _ HLO.out _)) | (go_at_call 41; exact Calls.quiet_of_same (setBound_at z mm _ HHI.out _)))
              clear c0 c1
              obtain ⟨T, hT⟩ : ∃ T : Nat, (T : Int) = max (f : Int) (min (e : Int) mm + 1) := ⟨(max (f : Int) (min (e : Int) mm + 1)).toNat, by omega⟩
              have HT := Lib.hid hT
              clear hT
              go_wp2_with fail
              obtain ⟨wr0, rfl⟩ : ∃ x, x = wr := ⟨_, rfl⟩
              obtain ⟨g0, rfl⟩ : ∃ x, x = gk := ⟨_, rfl⟩
              have HN := Lib.hid hn
              clear hn
              go_loopg [11] (T - f) (fun gk x wr => ∃ m : Nat, f ≤ m ∧ m + gk = max T f ∧ x = .int .i64 m ∧ Hid (wr.heap[mb]? = some (.cells (Marks (fun u => markOf (l.take n) mm u || (decide (f ≤ u) && decide (u < m)))) 64 (0, 0))) ∧ Hid (wr.ownsRow w.heap.size 3 1 (.slice (some ⟨w.heap.size, 0, none⟩) 0 0) 0 (([] : List Int).map (Value.int .i64))) ∧ Below w.heap.size w wr)
              case atStart =>
                refine ⟨f, Nat.le_refl _, by omega, rfl, ?_, (HST.out _ (below_drewN (by go_grown) _)).2.1, (HST.out _ (below_drewN (by go_grown) _)).2.2⟩
                show _ = _
                rw [(HST.out _ (below_drewN (by go_grown) _)).1]
                rw [Marks.ext (mark_start (markOf (l.take n) mm) f)]
              case round =>
                clear HZ HO HST hq
                obtain ⟨m, hfm, hm, rfl, HZ, HO, hq⟩ := hrel
                have htt := HT.out
                by_cases hem : (e : Int) ≤ mm
                · by_cases hmlt : m < T
                  · have hme : m ≤ e := by omega
                    have hm100 : (m : Int) < 100 := by omega
                    have hm100' : m < 100 := by omega
                    obtain ⟨k0, k1⟩ := Marks.cell HZ.out hm100'
                    have hzs := Marks.store (m := m) HZ.out
                    rw [Marks.ext (fun x => mark_step (markOf (l.take n) mm) f m x hfm)] at hzs
                    have HZS := Lib.hid hzs
                    clear htt hm100' hzs
                    go_wp2_with fail
                    go_roundg (gk - 1)
                    case measure => omega
                    case rel => exact ⟨m + 1, by omega, by omega, by go_num, HZS.out, World.ownsRow.kept (row := some mb) HO.out ⟨rfl, rfl, rfl, by simp [World.setCell], fun k hk hr => Below.heap_setCell _ _ _ _ (by show k ≠ mb; intro e; exact hr (by rw [e]))⟩ (by right; simp [Value.ownBlock]; omega), hq.setCell (by show w.heap.size ≤ mb; omega) _⟩
                  · have hme : decide (m ≤ e) = false := decide_eq_false (by omega)
                    have hmT : m = max T f := by omega
                    have hend := fun x => HMK.out f e HLO.out HHI.out (by omega) (by omega) (by omega) m hfm (by omega) (by omega) x
                    have hzs := HZ.out
                    rw [Marks.ext hend] at hzs
                    have HZS := Lib.hid hzs
                    have hn0 := HN.out
                    clear htt hzs hend hmT
                    go_wp2_with fail
                    go_roundg (g0 - 1)
                    case measure => omega
                    case rel => exact ⟨n + 1, by omega, by go_num, HZS.out, HO.out, hq⟩
                · by_cases hmlt : m < T
                  · have hme : (m : Int) ≤ mm := by omega
                    have hm100 : (m : Int) < 100 := by omega
                    have hm100' : m < 100 := by omega
                    obtain ⟨k0, k1⟩ := Marks.cell HZ.out hm100'
                    have hzs := Marks.store (m := m) HZ.out
                    rw [Marks.ext (fun x => mark_step (markOf (l.take n) mm) f m x hfm)] at hzs
                    have HZS := Lib.hid hzs
                    clear htt hm100' hzs
                    go_wp2_with fail
                    go_roundg (gk - 1)
                    case measure => omega
                    case rel => exact ⟨m + 1, by omega, by omega, by go_num, HZS.out, World.ownsRow.kept (row := some mb) HO.out ⟨rfl, rfl, rfl, by simp [World.setCell], fun k hk hr => Below.heap_setCell _ _ _ _ (by show k ≠ mb; intro e; exact hr (by rw [e]))⟩ (by right; simp [Value.ownBlock]; omega), hq.setCell (by show w.heap.size ≤ mb; omega) _⟩
                  · have hme : ¬ (m : Int) ≤ mm := by omega
                    have hmT : m = max T f := by omega
                    have hend := fun x => HMK.out f e HLO.out HHI.out (by omega) (by omega) (by omega) m hfm (by omega) (by omega) x
                    have hzs := HZ.out
                    rw [Marks.ext hend] at hzs
                    have HZS := Lib.hid hzs
                    have hn0 := HN.out
                    clear htt hzs hend hmT
                    go_wp2_with fail
                    go_roundg (g0 - 1)
                    case measure => omega
                    case rel => exact ⟨n + 1, by omega, by go_num, HZS.out, HO.out, hq⟩
            · have hfd : decide (e < f) = true := decide_eq_true (by omega)
              have HST := Lib.hid (fun (W : World) (q : Below wr.heap.size wr W) => And.intro ((q.block mb (lt_of_block HZ.out)).trans HZ.out) (And.intro (World.ownsRow.kept (row := none) HO.out ⟨q.os, q.tape, q.output, q.size, fun k hk _ => q.block k hk⟩ (by simp [Value.ownBlock])) (hq.trans (q.mono hq.size))))
              go_wp2_with fail
              go_quiet (first | (go_at_call 41; exact Calls.quiet_of_same (setBound_at y mm _ HLO.out _)) | (go_at_call 41; exact Calls.quiet_of_same (setBound_at z mm _ HHI.out _)))
              clear c0 c1
              obtain ⟨T, hT⟩ : ∃ T : Nat, (T : Int) = max (e : Int) (min (f : Int) mm + 1) := ⟨(max (e : Int) (min (f : Int) mm + 1)).toNat, by omega⟩
              have HT := Lib.hid hT
              clear hT
              go_wp2_with fail
              obtain ⟨wr0, rfl⟩ : ∃ x, x = wr := ⟨_, rfl⟩
              obtain ⟨g0, rfl⟩ : ∃ x, x = gk := ⟨_, rfl⟩
              have HN := Lib.hid hn
              clear hn
              go_loopg [11] (T - e) (fun gk x wr => ∃ m : Nat, e ≤ m ∧ m + gk = max T e ∧ x = .int .i64 m ∧ Hid (wr.heap[mb]? = some (.cells (Marks (fun u => markOf (l.take n) mm u || (decide (e ≤ u) && decide (u < m)))) 64 (0, 0))) ∧ Hid (wr.ownsRow w.heap.size 3 1 (.slice (some ⟨w.heap.size, 0, none⟩) 0 0) 0 (([] : List Int).map (Value.int .i64))) ∧ Below w.heap.size w wr)
              case atStart =>
                refine ⟨e, Nat.le_refl _, by omega, rfl, ?_, (HST.out _ (below_drewN (by go_grown) _)).2.1, (HST.out _ (below_drewN (by go_grown) _)).2.2⟩
                show _ = _
                rw [(HST.out _ (below_drewN (by go_grown) _)).1]
                rw [Marks.ext (mark_start (markOf (l.take n) mm) e)]
              case round =>
                clear HZ HO HST hq
                obtain ⟨m, hfm, hm, rfl, HZ, HO, hq⟩ := hrel
                have htt := HT.out
                by_cases hem : (f : Int) ≤ mm
                · by_cases hmlt : m < T
                  · have hme : m ≤ f := by omega
                    have hm100 : (m : Int) < 100 := by omega
                    have hm100' : m < 100 := by omega
                    obtain ⟨k0, k1⟩ := Marks.cell HZ.out hm100'
                    have hzs := Marks.store (m := m) HZ.out
                    rw [Marks.ext (fun x => mark_step (markOf (l.take n) mm) e m x hfm)] at hzs
                    have HZS := Lib.hid hzs
                    clear htt hm100' hzs
                    go_wp2_with fail
                    go_roundg (gk - 1)
                    case measure => omega
                    case rel => exact ⟨m + 1, by omega, by omega, by go_num, HZS.out, World.ownsRow.kept (row := some mb) HO.out ⟨rfl, rfl, rfl, by simp [World.setCell], fun k hk hr => Below.heap_setCell _ _ _ _ (by show k ≠ mb; intro e; exact hr (by rw [e]))⟩ (by right; simp [Value.ownBlock]; omega), hq.setCell (by show w.heap.size ≤ mb; omega) _⟩
                  · have hme : decide (m ≤ f) = false := decide_eq_false (by omega)
                    have hmT : m = max T e := by omega
                    have hend := fun x => HMK.out e f HLO.out HHI.out (by omega) (by omega) (by omega) m hfm (by omega) (by omega) x
                    have hzs := HZ.out
                    rw [Marks.ext hend] at hzs
                    have HZS := Lib.hid hzs
                    have hn0 := HN.out
                    clear htt hzs hend hmT
                    go_wp2_with fail
                    go_roundg (g0 - 1)
                    case measure => omega
                    case rel => exact ⟨n + 1, by omega, by go_num, HZS.out, HO.out, hq⟩
                · by_cases hmlt : m < T
                  · have hme : (m : Int) ≤ mm := by omega
                    have hm100 : (m : Int) < 100 := by omega
                    have hm100' : m < 100 := by omega
                    obtain ⟨k0, k1⟩ := Marks.cell HZ.out hm100'
                    have hzs := Marks.store (m := m) HZ.out
                    rw [Marks.ext (fun x => mark_step (markOf (l.take n) mm) e m x hfm)] at hzs
                    have HZS := Lib.hid hzs
                    clear htt hm100' hzs
                    go_wp2_with fail
                    go_roundg (gk - 1)
                    case measure => omega
                    case rel => exact ⟨m + 1, by omega, by omega, by go_num, HZS.out, World.ownsRow.kept (row := some mb) HO.out ⟨rfl, rfl, rfl, by simp [World.setCell], fun k hk hr => Below.heap_setCell _ _ _ _ (by show k ≠ mb; intro e; exact hr (by rw [e]))⟩ (by right; simp [Value.ownBlock]; omega), hq.setCell (by show w.heap.size ≤ mb; omega) _⟩
                  · have hme : ¬ (m : Int) ≤ mm := by omega
                    have hmT : m = max T e := by omega
                    have hend := fun x => HMK.out e f HLO.out HHI.out (by omega) (by omega) (by omega) m hfm (by omega) (by omega) x
                    have hzs := HZ.out
                    rw [Marks.ext hend] at hzs
                    have HZS := Lib.hid hzs
                    have hn0 := HN.out
                    clear htt hzs hend hmT
                    go_wp2_with fail
                    go_roundg (g0 - 1)
                    case measure => omega
                    case rel => exact ⟨n + 1, by omega, by go_num, HZS.out, HO.out, hq⟩
          · obtain rfl : n = L := by omega
            have hz := HZ.out
            rw [show l.take n = l from by rw [← HL.out, List.take_length]] at hz
            have hN0 : markNums l mm 0 = [] := rfl
            have ho := HO.out
            rw [← hN0] at ho
            have hrd := fun (k : Nat) (hk : k < 100) (W : World) => (marks_read (markOf l mm) k hk W)
            have HRD := Lib.hid hrd; have HO0 := Lib.hid ho
            obtain ⟨j0, hj, hy0, hy1, hy2⟩ := info_parts Tryd.infoInt
            clear hrd hN0 ho HZ HO HM
            go_wp2_with (refine wpList_load_row rfl 64 _ rfl mb rfl 64 (Marks (markOf l mm)) (0, 0) _ hz Tryd.underlying64 rfl (by rw [Marks.size]; kernel_rfl) ?_)
            go_wp2_with fail
            go_loopg [5, 56] 100 (fun gk ps i wr => ∃ (p k cp g : Nat) (xs : List Int), p + gk = 100 ∧ k ≤ p ∧ ps = .slice (some ⟨g, 0, none⟩) k cp ∧ i = .int .i64 p ∧ Hid (markNums l mm p = xs) ∧ Hid (wr.ownsRow w.heap.size 3 1 (.slice (some ⟨g, 0, none⟩) k cp) k (xs.map (Value.int .i64))) ∧ Below w.heap.size w wr)
            case atStart => exact ⟨0, 0, 0, _, [], by omega, by omega, rfl, rfl, rfl, HO0.out, hq⟩
            case round =>
              clear HO0 hq hz
              obtain ⟨p, k, cp, g, xs, hp, hkp, rfl, rfl, HE, HR, hq⟩ := hrel
              by_cases hlt2 : p < 100
              · have hx := HRD.out p hlt2
                have hs := markNums_succ l mm p
                rw [HE.out] at hs
                have hltI : (p : Int) < 100 := by omega
                rcases hb : markOf l mm p with _ | _
                · rw [hb] at hx hs
                  rw [if_neg (by decide), List.append_nil] at hs
                  have HS2 := Lib.hid hs
                  clear hs hb
                  go_wp2_with fail
                  go_roundg (gk - 1)
                  case measure => omega
                  case rel => exact ⟨p + 1, k, cp, g, xs, by omega, by omega, rfl, by go_num, HS2.out, HR.out, hq⟩
                · rw [hb] at hx hs
                  rw [if_pos rfl] at hs
                  have HS2 := Lib.hid hs
                  have hown : (wr.alloc (.cells #[.int .i64 (p : Int)] 3)).ownsRow w.heap.size 3 1 (.slice (some ⟨g, 0, none⟩) k cp) k (xs.map (Value.int .i64)) := HR.out.alloc _
                  have HO := Lib.hid hown
                  clear hs hb hown
                  go_wp2_with (at_builtin; refine wpList_append_lies _ rfl _ _ _ rfl w.heap.size 3 j0 (.int .i64 0) 1 8 Tryd.underlying32 hj hy0 hy1 hy2 rfl (by omega) _ k _ rfl HO.out ⟨wr.heap.size, 0, none⟩ 1 1 [.int .i64 (p : Int)] rfl rfl (cell_one_new _ _ _) (by simp [Value.oneCell']) (by omega) (by unfold maxLen; omega) (by omega) (by have := hq.size; simp; omega) (wr.heap.size + 1) (by simp) ?_)
                  intro g2 cap2 w4 hown4 hgrow hat hlt4
                  have q4 : Below w.heap.size w w4 := (hq.alloc hq.size _).grown hgrow (by have := hq.size; simp; omega) (fun k hk => by simp [Value.ownBlock] at hk; have := row_base HO.out; omega)
                  have r4 : w4.ownsRow w.heap.size 3 1 (.slice (some ⟨g2, 0, none⟩) (k + 1) cap2) (k + 1) ((xs ++ [(p : Int)]).map (Value.int .i64)) := by rw [List.map_append]; exact hown4
                  have R4 := Lib.hid r4
                  clear hown4 hgrow hat r4 HO
                  go_wp2_with fail
                  go_roundg (gk - 1)
                  case measure => omega
                  case rel => exact ⟨p + 1, k + 1, cap2, g2, _, by omega, by omega, rfl, by go_num, HS2.out, R4.out, q4⟩
              · obtain rfl : p = 100 := by omega
                have he := HE.out
                rw [HALL.out] at he
                subst he
                obtain ⟨m1', m2'⟩ := OwnInts.mk HR.out
                have M1 := Lib.hid m1'; have M2 := Lib.hid m2'
                clear m1' m2' HR HE hlt2
                go_wp2_with fail
                go_ret
                exact ⟨g, cp, by rw [M2.out]; rfl, by rw [M2.out]; exact M1.out, hq⟩
end Go.Proofs.YtlkfaamjbecieaaDoor

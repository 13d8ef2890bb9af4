/- WALKS: a mailbox that comes in is copied; numbers, too; equal ones are found equal. -/
import Derived.Test.YtpahgjideppmoaaExTo
import Derived.Deep.RegionHeld3
import Derived.Deep.QuietTactic
import Derived.BigQuiet
namespace Go.Proofs.Ytpahgjideppmoaa
open Go.RowKit
set_option linter.unusedVariables false
attribute [local go_sem ↓] Go.wp_at_zero Go.wp_at_succ

/-! Rows of numbers that are written place by place. -/
theorem OwnInts.put {w : World} {base g n cap : Nat} {l : List Int} (h : OwnInts w base (.slice (some ⟨g, 0, none⟩) n cap) l) (hn : n = l.length) {j : Nat} (hj : j < l.length) (x : Int) :
    OwnInts (w.setCell ⟨g, j, none⟩ (.int .i64 x)) base (.slice (some ⟨g, 0, none⟩) n cap) (l.set j x) := by
  subst hn
  obtain ⟨h1, h2⟩ := h
  unfold OwnInts
  rw [List.length_set]
  refine ⟨by simp, ?_⟩
  rcases h2 with ⟨h2, _⟩ | ⟨g', cap', cur, h2, hb, hh, hn, hm, hs, ht⟩
  · cases h2
  · cases h2
    refine .inr ⟨g, cap, cur.setIfInBounds j (.int .i64 x), rfl, hb, ?_, hn, hm, by simpa using hs, ?_⟩
    · have hlt := lt_of_block hh
      have h' : w.heap[g] = .cells cur 3 (0, 0) := by simpa [Array.getElem?_eq_getElem hlt] using hh
      show (w.heap.modify g _)[g]? = _
      rw [Array.getElem?_eq_getElem (by simpa using hlt), Array.getElem_modify_self, h']
      rfl
    · rw [Array.toList_setIfInBounds, List.take_set, ht, List.map_set]
theorem OwnInts.cell1 {w : World} {base g n cap : Nat} {l : List Int} (h : OwnInts w base (.slice (some ⟨g, 0, none⟩) n cap) l) {i : Nat} {x : Int} (hi : l[i]? = some x) :
    w.cell? ⟨g, i, none⟩ = some (.int .i64 x) ∧ w.frozen? ⟨g, i, none⟩ = false := by
  have c0 := World.ownsRow.cells h rfl i (.int .i64 x) (by rw [List.getElem?_map, hi]; rfl)
  simp only [add_at, Nat.zero_add] at c0
  refine ⟨c0, ?_⟩
  rcases h.2 with ⟨h2, _⟩ | ⟨g', cap', cur, h2, hb, hh, _⟩
  · cases h2
  · cases h2
    simp [World.frozen?, hh]
theorem ints_block {w : World} {base g n cap : Nat} {l : List Int} (h : OwnInts w base (.slice (some ⟨g, 0, none⟩) n cap) l) : base ≤ g ∧ g < w.heap.size := by
  rcases h.2 with ⟨h2, _⟩ | ⟨g', cap', cur, h2, hb, hh, _⟩
  · cases h2
  · cases h2; exact ⟨hb, lt_of_block hh⟩
theorem ints_zeros (w : World) (n : Nat) (hn : n ≤ maxLen) : OwnInts (w.alloc (.cells (madeCells #[.int .i64 0] (n * 1)) 3)) w.heap.size (.slice (some ⟨w.heap.size, 0, none⟩) n n) (List.replicate n 0) := by
  unfold OwnInts
  rw [List.length_replicate]
  refine ⟨by simp, .inr ⟨w.heap.size, n, _, rfl, Nat.le_refl _, heap_alloc_new w _, Nat.le_refl _, hn, by rw [size_madeCells], ?_⟩⟩
  rw [List.take_of_length_le (by simp [size_madeCells])]
  apply List.ext_getElem?
  intro j
  rw [Array.getElem?_toList, made_at]
  by_cases h : j < n
  · rw [if_pos (by omega)]; simp [h, Nat.mod_one]
  · rw [if_neg (by omega)]; simp; omega
def cpyI (l : List Int) (i : Nat) (_ : Int) : Int := l.getD i 0
theorem cpyI_at {l : List Int} {i : Nat} {m : Int} (h : l[i]? = some m) (x : Int) : cpyI l i x = m := by simp [cpyI, h]
theorem cpyI_all (l : List Int) : (List.replicate l.length 0).mapIdx (cpyI l) = l := by
  apply List.ext_getElem?
  intro i
  rcases hx : l[i]? with _ | x
  · have : l.length ≤ i := List.getElem?_eq_none_iff.1 hx
    simp; omega
  · have : i < l.length := (List.getElem?_eq_some_iff.1 hx).1
    simp [this, cpyI]
    exact (List.getElem?_eq_some_iff.1 hx).2
set_option maxHeartbeats 400000 in
theorem toBox_any (b : B) (v : Value) (w : World) (h : BoxAt w v b) (hl : b.mail.length ≤ 1048576) :
    Calls Try.prog 7 #[v] w fun e w' => ∃ g, e = .returned (.agg #[.int .i64 b.next, .slice (some ⟨g, 0, none⟩) b.mail.length b.mail.length]) ∧ Own w' w.heap.size (.slice (some ⟨g, 0, none⟩) b.mail.length b.mail.length) b.mail ∧ Below w.heap.size w w' := by
  obtain ⟨s, rfl, k1⟩ := h
  have e1 := k1
  obtain ⟨a1, L, cap1, rfl, hL, hc1, _, hmail1⟩ := e1
  have K1 := Lib.hid k1
  obtain ⟨w1, hw1⟩ : ∃ w1, w1 = ((w.alloc (.cells #[.int .i64 b.next, .slice a1 L cap1] 24)).alloc (.cells #[.int .i64 0, .slice none 0 0] 29)).alloc (.cells #[.int .i64 b.next, .slice none 0 0] 29) := ⟨_, rfl⟩
  have bel1 : Below w.heap.size w w1 := by rw [hw1]; go_grown
  have h0 : w1.heap[w.heap.size + 1]? = some (.cells #[.int .i64 0, .slice none 0 0] 29 (0, 0)) := by
    rw [hw1, Below.heap_alloc _ _ _ (by simp)]; have := heap_alloc_new (w.alloc (.cells #[.int .i64 b.next, .slice a1 L cap1] 24)) (.cells #[.int .i64 0, .slice none 0 0] 29); simpa using this
  have h1 : w1.heap[w.heap.size + 1 + 1]? = some (.cells #[.int .i64 b.next, .slice none 0 0] 29 (0, 0)) := by
    rw [hw1]; have := heap_alloc_new ((w.alloc (.cells #[.int .i64 b.next, .slice a1 L cap1] 24)).alloc (.cells #[.int .i64 0, .slice none 0 0] 29)) (.cells #[.int .i64 b.next, .slice none 0 0] 29); simpa using this
  have hsz : w.heap.size + 3 ≤ w1.heap.size := by rw [hw1]; simp
  have HW := Lib.hid hw1
  clear hL hmail1 k1 hw1
  go_enter Try.func7, Try.ntmps7
  go_wp2_with fail
  rw [← HW.out]
  refine (toMailS_any b.mail _ _ (K1.out.below bel1) hl).mono ?_
  rintro e w2 ⟨g, rfl, ho, q2⟩
  have g0 := (q2.block _ (by omega)).trans h0
  have g1 := (q2.block _ (by omega)).trans h1
  have bel2 := bel1.trans (q2.mono bel1.size)
  have s2 := q2.size
  obtain ⟨c0, c1, f0, f1⟩ := two_cells g0
  obtain ⟨c2, c3, f2, f3⟩ := two_cells g1
  have z2 : w.heap.size + 1 + 1 < w2.heap.size := by omega
  have HO := Lib.hid ho
  clear h0 h1 g0 g1 ho q2 bel1 HW
  go_wp2_with fail
  refine bodyPost_ret (v := .agg #[.int .i64 b.next, .slice (some ⟨g, 0, none⟩) b.mail.length b.mail.length]) (by simp [results, Try.results7, go_sem, *]) rfl ⟨g, rfl, ?_, ?_⟩
  · exact (((HO.out.setLow (by show w.heap.size + 1 + 1 < w1.heap.size; omega) _).setLow (by show w.heap.size + 1 < w1.heap.size; omega) _).setLow (by show w.heap.size + 1 < w1.heap.size; omega) _).more (by omega)
  · exact ((bel2.setCell (by show w.heap.size ≤ w.heap.size + 1 + 1; omega) _).setCell (by show w.heap.size ≤ w.heap.size + 1; omega) _).setCell (by show w.heap.size ≤ w.heap.size + 1; omega) _
theorem eqMail_any (m : M) (w : World) : Calls Try.prog 40 #[.agg #[.int .i64 m.uid, .int .i64 m.flags, .string m.text], .agg #[.int .i64 m.uid, .int .i64 m.flags, .string m.text]] w fun e w' => e = .returned (.bool true) ∧ Below w.heap.size w w' := by
  obtain ⟨u, f, s⟩ := m
  dsimp only
  go_enter Try.func40, Try.ntmps40
  go_wp2_with fail
  go_ret
  exact ⟨rfl, by go_grown⟩
set_option maxHeartbeats 400000 in
theorem eqMailS_any (l : List M) (v1 v2 : Value) (w : World) (h1 : MailAt w v1 l) (h2 : MailAt w v2 l) :
    Calls Try.prog 26 #[v1, v2] w fun e w' => e = .returned (.bool true) ∧ Below w.heap.size w w' := by
  obtain ⟨a1, L, cap1, rfl, hL, hc1, ⟨hm1, _⟩, hmail1⟩ := h1
  obtain ⟨a2, L2, cap2, rfl, hL2, hc2, ⟨hm2, _⟩, hmail2⟩ := h2
  obtain rfl : L2 = L := by omega
  have HL := Lib.hid hL
  clear hL hL2
  go_enter Try.func26, Try.ntmps26
  go_wp2_with fail
  go_loopw [5] (fun i wr => ∃ (n : Nat), n ≤ L2 ∧ i = .int .i64 n ∧ Below w.heap.size w wr) (fun i _ => L2 - (intOf i).toNat)
  case atStart => exact ⟨0, by omega, rfl, Below.refl _ _⟩
  case round =>
    obtain ⟨n, hnL, rfl, hq⟩ := hrel
    by_cases hlt : n < L2
    · rcases hmail1 with h0 | ⟨g1, off1, rfl, hg1, hcells1⟩
      · omega
      rcases hmail2 with h0 | ⟨g2, off2, rfl, hg2, hcells2⟩
      · omega
      have hlt' : n < l.length := by rw [HL.out]; exact hlt
      have hm := List.getElem?_eq_getElem hlt'
      generalize l[n] = m at hm
      obtain ⟨c0, c1, c2⟩ := hcells1 n _ hm
      obtain ⟨d0, d1, d2⟩ := hcells2 n _ hm
      have k1 : ∀ o v, w.cell? ⟨g1, o, none⟩ = some v → wr.cell? ⟨g1, o, none⟩ = some v := fun o v h => (hq.cell (p := ⟨g1, o, none⟩) hg1).trans h
      have k2 : ∀ o v, w.cell? ⟨g2, o, none⟩ = some v → wr.cell? ⟨g2, o, none⟩ = some v := fun o v h => (hq.cell (p := ⟨g2, o, none⟩) hg2).trans h
      replace c0 := k1 _ _ c0
      replace c1 := k1 _ _ c1
      replace c2 := k1 _ _ c2
      replace d0 := k2 _ _ d0
      replace d1 := k2 _ _ d1
      replace d2 := k2 _ _ d2
      have n0 : (0 : Int) ≤ (n : Int) := Int.natCast_nonneg _
      have hnI : (n : Int) < (L2 : Int) := by omega
      clear k1 k2 hcells1 hcells2 hm
      go_wp2_with fail
      go_region_held3 (fun W => (W.cell? ⟨g1, off1 + n * 3, none⟩ = some (.int .i64 m.uid) ∧ W.cell? ⟨g1, off1 + n * 3 + 1, none⟩ = some (.int .i64 m.flags) ∧ W.cell? ⟨g1, off1 + n * 3 + 2, none⟩ = some (.string m.text)) ∧ W.cell? ⟨g2, off2 + n * 3, none⟩ = some (.int .i64 m.uid) ∧ W.cell? ⟨g2, off2 + n * 3 + 1, none⟩ = some (.int .i64 m.flags) ∧ W.cell? ⟨g2, off2 + n * 3 + 2, none⟩ = some (.string m.text)) (first | exact ⟨⟨c0, c1, c2⟩, d0, d1, d2⟩ | (go_keep; done))
        ((go_at_call 40; refine (eqMail_any m _).mono ?_; rintro e w2 ⟨rfl, q2⟩; have q3 : Below w.heap.size w w2 := hq.trans (Below.trans (by go_grown) (q2.mono (by first | exact hq.size | (show _ ≤ wr.heap.size; exact hq.size)))); have c0 := (q2.cell (p := ⟨g1, _, none⟩) (World.block_lt_of_cell? _ _ c0)).trans c0; have c1 := (q2.cell (p := ⟨g1, _, none⟩) (World.block_lt_of_cell? _ _ c1)).trans c1; have c2 := (q2.cell (p := ⟨g1, _, none⟩) (World.block_lt_of_cell? _ _ c2)).trans c2; have d0 := (q2.cell (p := ⟨g2, _, none⟩) (World.block_lt_of_cell? _ _ d0)).trans d0; have d1 := (q2.cell (p := ⟨g2, _, none⟩) (World.block_lt_of_cell? _ _ d1)).trans d1; have d2 := (q2.cell (p := ⟨g2, _, none⟩) (World.block_lt_of_cell? _ _ d2)).trans d2; clear q2))
      go_wp2_with fail
      go_roundw
      case rel => exact ⟨n + 1, by omega, by go_num, q3⟩
      case measure => simp [intOf]; omega
    · have : n = L2 := by omega
      subst this
      clear hmail1 hmail2
      go_wp2_with fail
      go_ret
      exact ⟨rfl, hq⟩
theorem eqBox_any (b : B) (v1 v2 : Value) (w : World) (h1 : BoxAt w v1 b) (h2 : BoxAt w v2 b) :
    Calls Try.prog 10 #[v1, v2] w fun e w' => e = .returned (.bool true) ∧ Below w.heap.size w w' := by
  obtain ⟨s1, rfl, k1⟩ := h1
  obtain ⟨s2, rfl, k2⟩ := h2
  have e1 := k1
  have e2 := k2
  obtain ⟨a1, L, cap1, rfl, hL, hc1, ⟨hm1, _⟩, hmail1⟩ := e1
  obtain ⟨a2, L2, cap2, rfl, hL2, hc2, ⟨hm2, _⟩, hmail2⟩ := e2
  have K1 := Lib.hid k1; have K2 := Lib.hid k2
  clear hL hL2 hmail1 hmail2 k1 k2
  go_enter Try.func10, Try.ntmps10
  go_wp2_with fail
  refine (eqMailS_any b.mail _ _ _ (K1.out.below (by go_grown)) (K2.out.below (by go_grown))).mono ?_
  rintro e w2 ⟨rfl, q2⟩
  have q3 : Below w.heap.size w w2 := Below.trans (by go_grown) (q2.mono (by simp; omega))
  clear q2
  go_wp2_with fail
  go_ret
  exact ⟨rfl, q3⟩
set_option maxHeartbeats 400000 in
theorem toIntS_any (l : List Int) (v : Value) (w : World) (h : IntsAt w v l) (hl : l.length ≤ 1048576) :
    Calls Try.prog 8 #[v] w fun e w' => ∃ g, e = .returned (.slice (some ⟨g, 0, none⟩) l.length l.length) ∧ OwnInts w' w.heap.size (.slice (some ⟨g, 0, none⟩) l.length l.length) l ∧ Below w.heap.size w w' := by
  obtain ⟨a, L, cap, rfl, rfl, hc, _, hmail⟩ := h
  obtain ⟨i0, hi, hz0, hz1, hz2⟩ := info_parts Try.infoInt
  have hmk := run_make_rowN (P := Try.prog) 25 3 i0 (.int .i64 0) Try.underlying25 hi hz0 .i64 .i64 l.length l.length (Nat.le_refl _) (by rw [hz2]; omega) (by omega) w
  rw [hz1] at hmk
  obtain ⟨w1, hw1⟩ : ∃ w1, w1 = w.alloc (.cells (madeCells #[.int .i64 0] (l.length * 1)) 3) := ⟨_, rfl⟩
  have ho := ints_zeros w l.length (by unfold maxLen; omega)
  have hmk2 : (Instr.makeSlice 25 (.int .i64 (l.length : Int)) (.int .i64 (l.length : Int))).run Try.prog w = .ok (.slice (some ⟨w.heap.size, 0, none⟩) l.length l.length) w1 := by rw [hw1]; exact hmk
  rw [← hw1] at ho
  have q1 : Below w.heap.size w w1 := by rw [hw1]; exact (Below.refl _ _).alloc (Nat.le_refl _) _
  have HO := Lib.hid ho
  clear hmk hw1 ho hi hz0 hz1 hz2
  go_enter Try.func8, Try.ntmps8
  go_wp2_with fail
  clear hmk2
  go_loopw [4] (fun i wr => ∃ (n : Nat), n ≤ l.length ∧ i = .int .i64 n ∧ Hid (OwnInts wr w.heap.size (.slice (some ⟨w.heap.size, 0, none⟩) l.length l.length) (upd (cpyI l) n (List.replicate l.length 0))) ∧ Below w.heap.size w wr) (fun i _ => l.length - (intOf i).toNat)
  case atStart => exact ⟨0, by omega, rfl, by rw [upd_zero]; exact HO.out, q1⟩
  case round =>
    obtain ⟨n, hn, rfl, HO2, hq⟩ := hrel
    clear HO q1
    by_cases hlt : n < l.length
    · rcases hmail with h0 | ⟨g, off, rfl, hg, hcells⟩
      · omega
      have hm := List.getElem?_eq_getElem hlt
      generalize l[n] = m at hm
      have c0 := (hq.cell (p := ⟨g, _, none⟩) hg).trans (hcells n _ hm)
      have hnI : (n : Int) < (l.length : Int) := by omega
      have hz : (List.replicate l.length (0 : Int))[n]? = some 0 := by rw [List.getElem?_replicate, if_pos hlt]
      obtain ⟨d0, e0⟩ := HO2.out.cell1 (upd_at (cpyI l) n _ 0 hz)
      have ho3 := HO2.out.put (by rw [upd_length, List.length_replicate]) (j := n) (by rw [upd_length, List.length_replicate]; exact hlt) m
      have hu := upd_set (cpyI l) n _ 0 hz
      rw [cpyI_at hm] at hu
      rw [hu] at ho3
      have HO3 := Lib.hid ho3
      clear ho3 hu hz hm hcells
      go_wp2_with fail
      go_roundw
      case rel => exact ⟨n + 1, by omega, by go_num, HO3.out, hq.setCell (by show w.heap.size ≤ w.heap.size; omega) _⟩
      case measure => simp [intOf]; omega
    · have hnn : n = l.length := by omega
      have ho2 := HO2.out
      rw [upd_all _ _ (by simp; exact hnn), cpyI_all] at ho2
      have HO3 := Lib.hid ho2
      clear hmail ho2 hnn
      go_wp2_with fail
      go_ret
      exact ⟨_, rfl, HO3.out, hq⟩
set_option maxHeartbeats 400000 in
theorem eqIntS_any (l : List Int) (v1 v2 : Value) (w : World) (h1 : IntsAt w v1 l) (h2 : IntsAt w v2 l) :
    Calls Try.prog 11 #[v1, v2] w fun e w' => e = .returned (.bool true) ∧ Below w.heap.size w w' := by
  obtain ⟨a1, L, cap1, rfl, hL, hc1, ⟨hm1, _⟩, hmail1⟩ := h1
  obtain ⟨a2, L2, cap2, rfl, hL2, hc2, ⟨hm2, _⟩, hmail2⟩ := h2
  obtain rfl : L2 = L := by omega
  have HL := Lib.hid hL
  clear hL hL2
  go_enter Try.func11, Try.ntmps11
  go_wp2_with fail
  go_loopw [5] (fun i wr => ∃ (n : Nat), n ≤ L2 ∧ i = .int .i64 n ∧ Below w.heap.size w wr) (fun i _ => L2 - (intOf i).toNat)
  case atStart => exact ⟨0, by omega, rfl, Below.refl _ _⟩
  case round =>
    obtain ⟨n, hnL, rfl, hq⟩ := hrel
    by_cases hlt : n < L2
    · rcases hmail1 with h0 | ⟨g1, off1, rfl, hg1, hcells1⟩
      · omega
      rcases hmail2 with h0 | ⟨g2, off2, rfl, hg2, hcells2⟩
      · omega
      have hlt' : n < l.length := by rw [HL.out]; exact hlt
      have hm := List.getElem?_eq_getElem hlt'
      generalize l[n] = m at hm
      have c0 := (hq.cell (p := ⟨g1, _, none⟩) hg1).trans (hcells1 n _ hm)
      have d0 := (hq.cell (p := ⟨g2, _, none⟩) hg2).trans (hcells2 n _ hm)
      have hnI : (n : Int) < (L2 : Int) := by omega
      clear hcells1 hcells2 hm
      go_wp2_with fail
      go_quiet (fail)
      go_wp2_with fail
      go_roundw
      case rel => exact ⟨n + 1, by omega, by go_num, below_drewN hq _⟩
      case measure => simp [intOf]; omega
    · have : n = L2 := by omega
      subst this
      clear hmail1 hmail2
      go_wp2_with fail
      go_ret
      exact ⟨rfl, hq⟩
end Go.Proofs.Ytpahgjideppmoaa

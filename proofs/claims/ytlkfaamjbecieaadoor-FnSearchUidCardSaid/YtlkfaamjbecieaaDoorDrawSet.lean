/- WALKS: how a set of spans is drawn. -/
import Derived.Test.YtlkfaamjbecieaaDoorDrawFlags
import Derived.Test.YtlkfaamjbecieaaDoorApp
import Derived.Test.YtlkfaamjbecieaaDoorKMem
import Derived.Deep.DeepCutAuto
import Derived.Deep.LoopGhost
namespace Go.Proofs.YtlkfaamjbecieaaDoor
open Go.RowKit
set_option linter.unusedVariables false

theorem two_new {w : World} {b : Nat} {x y : Value} {t : TypeId} (h : w.heap[b]? = some (.cells #[x, y] t (0, 0))) :
    w.cell? ⟨b, 0, none⟩ = some x ∧ w.cell? ⟨b, 1, none⟩ = some y ∧ w.frozen? ⟨b, 0, none⟩ = false ∧ w.frozen? ⟨b, 1, none⟩ = false := by
  simp [World.cell?, World.frozen?, h]
theorem l91Number_any (r B : Nat) (hB : B + 2 ≤ 1000000) (w : World) (h : Rd w r B) :
    Calls Tryd.prog 57 #[.pointer (some ⟨r, 0, none⟩)] w fun e w' => ∃ m : Int, e = .returned (.int .i64 m) ∧ (-1 ≤ m ∧ m ≤ 100) ∧ Rd w' r (B + 2) ∧ w.grownBy w' (some r) := by
  have hlt := h.lt
  go_enter Tryd.func57, Tryd.ntmps57
  go_wp2_with fail
  refine (pick_any r B _ (by omega) (by omega) (by omega) _ h).mono ?_
  rintro e w1 ⟨m, rfl, hm, h1, g1⟩
  have hlt1 := h1.lt
  by_cases hm0 : m = 0
  · subst hm0
    go_wp2_with fail
    have h1' : Rd (w1.alloc (.cells #[.int .i64 0, .int .i64 99, .int .i64 100, .int .i64 (-1), .int .i64 50] 3)) r (B + 1) := h1.below ((Below.refl _ _).alloc (Nat.le_refl _) _)
    refine (pick_any r (B + 1) _ (by omega) (by omega) (by omega) _ h1').mono ?_
    rintro e w2 ⟨m, rfl, hm, h2, g2⟩
    have hb : w2.heap[w1.heap.size]? = some (.cells #[.int .i64 0, .int .i64 99, .int .i64 100, .int .i64 (-1), .int .i64 50] 3 (0, 0)) :=
      (g2.block _ (by simp) (by simp; omega)).trans (heap_alloc_new w1 _)
    have g : w.grownBy w2 (some r) := grown_trans (grown_trans g1 (World.grownBy_alloc _ _ _)) g2
    have hv : ∃ v : Int, -1 ≤ v ∧ v ≤ 100 ∧ w2.cell? ⟨w1.heap.size, m, none⟩ = some (.int .i64 v) := by
      have hy4 : m = 0 ∨ m = 1 ∨ m = 2 ∨ m = 3 ∨ m = 4 := by omega
      rcases hy4 with rfl | rfl | rfl | rfl | rfl
      · exact ⟨0, by omega, by omega, cell_of_block hb rfl⟩
      · exact ⟨99, by omega, by omega, cell_of_block hb rfl⟩
      · exact ⟨100, by omega, by omega, cell_of_block hb rfl⟩
      · exact ⟨-1, by omega, by omega, cell_of_block hb rfl⟩
      · exact ⟨50, by omega, by omega, cell_of_block hb rfl⟩
    obtain ⟨v, hv0, hv1, hvc⟩ := hv
    have hm5 : m < 5 := by omega
    clear hb
    go_wp2_with fail
    go_ret
    exact ⟨v, rfl, by omega, h2, g⟩
  · have hm1 : ((m : Int) == 0) = false := by simp; omega
    go_wp2_with fail
    refine (pick_any r (B + 1) _ (by omega) (by omega) (by omega) _ h1).mono ?_
    rintro e w2 ⟨k, rfl, hk, h2, g2⟩
    go_wp2_with fail
    go_ret
    exact ⟨k, rfl, by omega, h2, grown_trans g1 g2⟩
/-- The cells of a row of spans. -/
def spanRow : List (Int × Int) → List Value
  | [] => []
  | s :: r => .int .i64 s.1 :: .int .i64 s.2 :: spanRow r
theorem spanRow_length (l : List (Int × Int)) : (spanRow l).length = l.length * 2 := by
  induction l with
  | nil => rfl
  | cons s r ih => simp [spanRow, ih]; omega
theorem spanRow_append (l r : List (Int × Int)) : spanRow (l ++ r) = spanRow l ++ spanRow r := by
  induction l with
  | nil => rfl
  | cons s l ih => simp [spanRow, ih]
theorem spanRow_at : ∀ (l : List (Int × Int)) (i : Nat) (s : Int × Int), l[i]? = some s → (spanRow l)[i * 2]? = some (.int .i64 s.1) ∧ (spanRow l)[i * 2 + 1]? = some (.int .i64 s.2)
  | [], i, s, h => by simp at h
  | a :: l, 0, s, h => by
    simp only [List.getElem?_cons_zero, Option.some.injEq] at h
    subst h
    exact ⟨rfl, rfl⟩
  | a :: l, i + 1, s, h => by
    obtain ⟨h0, h1⟩ := spanRow_at l i s (by simpa using h)
    have e : (i + 1) * 2 = i * 2 + 2 := by omega
    rw [e]
    exact ⟨by simpa [spanRow] using h0, by simpa [spanRow] using h1⟩
def OwnSpans (w : World) (base : Nat) (v : Value) (l : List (Int × Int)) : Prop := w.ownsRow base 66 2 v l.length (spanRow l)
theorem addr_add (b off j : Nat) : (⟨b, off, none⟩ : Addr).add j = ⟨b, off + j, none⟩ := by cases j <;> simp [Addr.add]
theorem OwnSpans.set {w : World} {base : Nat} {v : Value} {l : List (Int × Int)} (h : OwnSpans w base v l) (hl : l.length ≤ 4398046511104) (S : Nat → Prop) (hS : ∀ j, base ≤ j → j < w.heap.size → S j) : SetAt w S v l := by
  have hc := fun g (hg : v.ownBlock = some g) => World.ownsRow.cells h hg
  rcases h.2 with ⟨rfl, h0⟩ | ⟨g, cap, cur, rfl, hb, hh, hn, hm, hs, ht⟩
  · exact ⟨none, l.length, 0, by rw [h0], rfl, by omega, ⟨hl, fun _ => rfl⟩, .inl h0⟩
  · refine ⟨some ⟨g, 0, none⟩, l.length, cap, rfl, rfl, hn, ⟨hl, fun e => by cases e⟩, .inr ⟨g, 0, rfl, hS g hb (lt_of_block hh), fun i m hi => ?_⟩⟩
    obtain ⟨h0, h1⟩ := spanRow_at l i m hi
    have k0 := hc g rfl _ _ h0
    have k1 := hc g rfl _ _ h1
    rw [addr_add] at k0 k1
    exact ⟨k0, k1⟩
theorem OwnSpans.grown {w w' : World} {base r : Nat} {v : Value} {l : List (Int × Int)} (h : OwnSpans w base v l) (g : w.grownBy w' (some r)) (hr : r < base) : OwnSpans w' base v l := by
  refine World.ownsRow.kept h g ?_
  rcases h.2 with ⟨rfl, _⟩ | ⟨g, cap, cur, rfl, hb, _⟩
  · exact .inl rfl
  · right; intro e; simp [Value.ownBlock] at e; omega
theorem OwnSpans.below {w w' : World} {base : Nat} {v : Value} {l : List (Int × Int)} (h : OwnSpans w base v l) (hb : Below w.heap.size w w') : OwnSpans w' base v l :=
  World.ownsRow.kept (row := none) h (grown_of_below hb) (by cases v.ownBlock <;> simp)
theorem Tryd.infoSpan : (Tryd.prog.info? 66).map (fun i => (i.zero, i.size, i.bytes)) = some (some (.agg #[.int .i64 0, .int .i64 0]), 2, 16) := by kernel_rfl
theorem cur_set2 {w : World} {b : Nat} {x y u : Value} {t : TypeId} (h : w.heap[b]? = some (.cells #[x, y] t (0, 0))) : (w.setCell ⟨b, 1, none⟩ u).heap[b]? = some (.cells #[x, u] t (0, 0)) := by
  have hlt := lt_of_block h
  have h' : w.heap[b] = .cells #[x, y] t (0, 0) := by simpa [Array.getElem?_eq_getElem hlt] using h
  show (w.heap.modify b _)[b]? = _
  rw [Array.getElem?_eq_getElem (by simpa using hlt), Array.getElem_modify_self, h']
  rfl
/-- What is known while spans are drawn: the reader, the row so far. -/
structure DS (w : World) (r K g k cp : Nat) (l : List (Int × Int)) (v : World) : Prop where
  rd : Rd v r K
  own : v.ownsRow w.heap.size 66 2 (.slice (some ⟨g, 0, none⟩) k cp) k (spanRow l)
  gr : w.grownBy v (some r)
  lt : r < w.heap.size
  len : l.length = k
theorem DS.g_le {w v : World} {r K g k cp : Nat} {l : List (Int × Int)} (h : DS w r K g k cp l v) : w.heap.size ≤ g := by
  rcases h.own.2 with ⟨h2, _⟩ | ⟨g', cap', cur, h2, hb, _⟩
  · cases h2
  · cases h2; exact hb
theorem DS.call {w v v' : World} {r K K' g k cp : Nat} {l : List (Int × Int)} (h : DS w r K g k cp l v) (hr : Rd v' r K') (hg : v.grownBy v' (some r)) : DS w r K' g k cp l v' := by
  have h1 := h.lt
  have h2 := h.g_le
  refine ⟨hr, World.ownsRow.kept h.own hg (.inr ?_), grown_trans h.gr hg, h1, h.len⟩
  intro e; simp [Value.ownBlock] at e; omega
theorem DS.below {w v v' : World} {r K g k cp : Nat} {l : List (Int × Int)} (h : DS w r K g k cp l v) (hb : Below v.heap.size v v') : DS w r K g k cp l v' := h.call (h.rd.below hb) (grown_of_below hb)
theorem DS.more {w v : World} {r K K' g k cp : Nat} {l : List (Int × Int)} (h : DS w r K g k cp l v) (hK : K ≤ K') : DS w r K' g k cp l v := ⟨h.rd.more hK, h.own, h.gr, h.lt, h.len⟩
theorem DS.push {w v v' : World} {r K g k cp g' k' cp' : Nat} {l l' : List (Int × Int)} (h : DS w r K g k cp l v) (hg : v.grownBy v' (some g)) (hi : v'.ownsRow w.heap.size 66 2 (.slice (some ⟨g', 0, none⟩) k' cp') k' (spanRow l')) (hl : l'.length = k') : DS w r K g' k' cp' l' v' := by
  have h1 := h.lt
  have h2 := h.g_le
  refine ⟨h.rd.keep fun j hj => hg.block j (by have := h.rd.lt; omega) (by simp; omega), hi, ?_, h1, hl⟩
  exact ⟨hg.os.trans h.gr.os, hg.tape.trans h.gr.tape, hg.output.trans h.gr.output, Nat.le_trans h.gr.size hg.size, fun j hj hr => (hg.block j (Nat.lt_of_lt_of_le hj h.gr.size) (by simp; omega)).trans (h.gr.block j hj hr)⟩
theorem DS.set {w v : World} {r K g k cp : Nat} {l : List (Int × Int)} (h : DS w r K g k cp l v) {b : Nat} {x y : Value} (hb : v.heap[b]? = some (.cells #[x, y] 66 (0, 0))) (hw : w.heap.size ≤ b) (hne : b ≠ g) (j : Nat) (u : Value) : DS w r K g k cp l (v.setCell ⟨b, j, none⟩ u) := by
  have h1 := h.lt
  refine ⟨h.rd.keep fun i hi => Below.heap_setCell _ _ _ _ (by show i ≠ b; omega), ownsRow_setCell_other h.own (by simp [Value.ownBlock]; omega) u, ?_, h1, h.len⟩
  exact ⟨h.gr.os, h.gr.tape, h.gr.output, by simpa [World.setCell] using h.gr.size, fun i hi hr => (Below.heap_setCell _ _ _ _ (by show i ≠ b; omega)).trans (h.gr.block i hi hr)⟩
set_option maxRecDepth 8000 in
set_option maxHeartbeats 2000000 in
theorem l91Set_any (r B : Nat) (hB : B + 60 ≤ 1000000) (w : World) (h : Rd w r B) :
    Calls Tryd.prog 39 #[.pointer (some ⟨r, 0, none⟩)] w fun e w' => ∃ (l : List (Int × Int)) (a : Option Addr) (cap : Nat), e = .returned (.slice a l.length cap) ∧ l.length ≤ 8 ∧ OwnSpans w' w.heap.size (.slice a l.length cap) l ∧ Rd w' r (B + 60) ∧ w.grownBy w' (some r) := by
  have hlt := h.lt
  obtain ⟨j0, hj, hy0, hy1, hy2⟩ := info_parts Tryd.infoSpan
  have hD : DS w r B w.heap.size 0 0 [] (w.alloc (.cells #[] 66)) := by
    refine ⟨h.below ((Below.refl _ _).alloc (Nat.le_refl _) _), ?_, World.grownBy_alloc _ _ _, hlt, rfl⟩
    exact own_new w w.heap.size 66 2 (Nat.le_refl _)
  have HD := Lib.hid hD
  clear hD h
  go_enter Tryd.func39, Tryd.ntmps39
  go_wp2_with fail
  obtain ⟨w0, hw0⟩ : ∃ w0, w0 = w.alloc (.cells #[] 66) := ⟨_, rfl⟩
  rw [← hw0] at HD ⊢
  clear hw0
  refine (pick_any r B 3 (by omega) (by omega) (by omega) _ HD.out.rd).mono ?_
  rintro e w1 ⟨n0, rfl, hn0, hR, gR⟩
  replace HD := Lib.hid (HD.out.call hR gR)
  clear hR gR
  go_wp2_with fail
  refine (pick_any r (B + 1) 16 (by omega) (by omega) (by omega) _ HD.out.rd).mono ?_
  rintro e w2 ⟨q, rfl, hq, hR, gR⟩
  replace HD := Lib.hid (HD.out.call hR gR)
  clear hR gR
  go_upto_if 13 with fail
  go_cut [4] (fun n wx => ∃ k : Nat, k ≤ 8 ∧ n = .int .i64 k ∧ Hid (DS w r (B + 3) w.heap.size 0 0 [] wx))
  case first =>
    by_cases hq0 : q = 0
    · subst hq0
      go_wp2_with fail
      refine (pick_any r (B + 2) 9 (by omega) (by omega) (by omega) _ HD.out.rd).mono ?_
      rintro e w3 ⟨m, rfl, hm, hR, gR⟩
      replace HD := Lib.hid (HD.out.call hR gR)
      clear hR gR
      go_wp2_with fail
      go_meet
      exact ⟨m, by omega, rfl, HD.out⟩
    · have hq1 : ((q : Int) == 0) = false := by simp; omega
      go_wp2_with fail
      go_meet
      exact ⟨1 + n0, by omega, by go_num, HD.out.more (by omega)⟩
  clear HD
  obtain ⟨N, hN8, rfl, HD⟩ := hcut
  go_wp2_with fail
  go_loopg [3, 5] N (fun gk out i wr => ∃ (j g cp : Nat) (l : List (Int × Int)), j + gk = N ∧ out = .slice (some ⟨g, 0, none⟩) j cp ∧ i = .int .i64 j ∧ Hid (DS w r (B + 3 + 6 * j) g j cp l wr))
  case atStart => exact ⟨0, _, 0, [], by omega, rfl, rfl, HD.out⟩
  case round =>
    clear HD
    obtain ⟨j, g, cp, l, hj2, rfl, rfl, HD⟩ := hrel
    by_cases hjk : j < N
    · go_wp2_with fail
      refine (l91Number_any r (B + 3 + 6 * j) (by omega) _ HD.out.rd).mono ?_
      rintro e w3 ⟨x, rfl, hx, hR, gR⟩
      replace HD := Lib.hid (HD.out.call hR gR)
      clear hR gR
      go_wp2_with fail
      obtain ⟨w4, hw4⟩ : ∃ w4, w4 = w3.alloc (.cells #[.int .i64 x, .int .i64 x] 66) := ⟨_, rfl⟩
      have hb4 : w4.heap[w3.heap.size]? = some (.cells #[.int .i64 x, .int .i64 x] 66 (0, 0)) := by rw [hw4]; exact heap_alloc_new w3 _
      have hD4 : DS w r (B + 3 + 6 * j + 2) g j cp l w4 := by rw [hw4]; exact HD.out.below ((Below.refl _ _).alloc (Nat.le_refl _) _)
      have hsb : w.heap.size ≤ w3.heap.size := HD.out.gr.size
      have hgs : g < w3.heap.size := by
        rcases HD.out.own.2 with ⟨h2, _⟩ | ⟨g', cap', cur, h2, _, hh, _⟩
        · cases h2
        · cases h2; exact lt_of_block hh
      have hrs : r < w3.heap.size := HD.out.rd.lt
      rw [← hw4]
      clear hw4
      replace HD := Lib.hid hD4
      clear hD4
      refine (pick_any r (B + 3 + 6 * j + 2) 2 (by omega) (by omega) (by omega) _ HD.out.rd).mono ?_
      rintro e w5 ⟨y, rfl, hy, hR, gR⟩
      have hb5 := (gR.block _ (lt_of_block hb4) (by simp; omega)).trans hb4
      replace HD := Lib.hid (HD.out.call hR gR)
      clear hR gR hb4
      obtain ⟨c0, c1, f0, f1⟩ := two_new hb5
      go_upto_if 29 with fail
      go_cut [31] (fun _ wx => ∃ z : Int, Hid (wx.heap[w3.heap.size]? = some (.cells #[.int .i64 x, .int .i64 z] 66 (0, 0))) ∧ Hid (DS w r (B + 3 + 6 * j + 6) g j cp l wx))
      case first =>
        by_cases hy0 : y = 0
        · subst hy0
          go_wp2_with fail
          refine (l91Number_any r (B + 3 + 6 * j + 3) (by omega) _ HD.out.rd).mono ?_
          rintro e w6 ⟨z, rfl, hz, hR, gR⟩
          have hb6 := (gR.block _ (lt_of_block hb5) (by simp; omega)).trans hb5
          replace HD := Lib.hid (HD.out.call hR gR)
          clear hR gR hb5 c0 c1 f0 f1
          obtain ⟨c0, c1, f0, f1⟩ := two_new hb6
          have HB6 := Lib.hid hb6
          clear hb6
          go_wp2_with fail
          go_meet
          exact ⟨z, cur_set2 HB6.out, (HD.out.set HB6.out hsb (by omega) _ _).more (by omega)⟩
        · have hy1 : ((y : Int) == 0) = false := by simp; omega
          have HB5 := Lib.hid hb5
          clear hb5
          go_wp2_with fail
          go_meet
          exact ⟨x, HB5.out, HD.out.more (by omega)⟩
      clear HD c0 c1 f0 f1 hb5
      obtain ⟨z, HZ, HD⟩ := hcut
      obtain ⟨c0, c1, f0, f1⟩ := two_new HZ.out
      have x1 : ∀ u ∈ [Value.int .i64 x, Value.int .i64 z], u.oneCell' = true := fun u hu => by simp at hu; rcases hu with rfl | rfl <;> rfl
      have X1 := Lib.hid x1
      clear x1
      have hbl : Below wc.heap.size wc (wc.alloc (.cells #[.int .i64 x, .int .i64 z] 66)) := (Below.refl _ _).alloc (Nat.le_refl _) _
      have hsrc : Src (wc.alloc (.cells #[.int .i64 x, .int .i64 z] 66)) (some ⟨wc.heap.size, 0, none⟩) 1 1 [Value.int .i64 x, Value.int .i64 z] := by
        refine .inr ⟨_, rfl, fun jj u hu => ?_⟩
        have hn := heap_alloc_new wc (.cells #[.int .i64 x, .int .i64 z] 66)
        match jj, hu with
        | 0, hu => simp at hu; subst hu; exact cell_of_block hn rfl
        | 1, hu => simp at hu; subst hu; rw [addr_add]; exact cell_of_block hn rfl
        | jj + 2, hu => simp at hu
      have HSR := Lib.hid hsrc
      have HBL := Lib.hid hbl
      clear hsrc hbl
      go_wp2_with (at_builtin; refine wpList_append_any rfl _ _ 26 rfl w.heap.size 66 j0 (.agg #[.int .i64 0, .int .i64 0]) 2 16 Tryd.underlying26 hj hy0 hy1 hy2 rfl (by decide) g cp j (spanRow l) rfl (HD.out.below HBL.out).own (some ⟨wc.heap.size, 0, none⟩) 1 1 [.int .i64 x, .int .i64 z] rfl rfl HSR.out X1.out (by unfold maxLen; omega) (by omega) (by have := HD.out.gr.size; simp; omega) ?_)
      intro g7 cp7 w7 hown7 hgrow
      have hP := DS.push (l' := l ++ [(x, z)]) (HD.out.below HBL.out) hgrow (by rw [spanRow_append]; exact hown7) (by rw [List.length_append, HD.out.len]; rfl)
      have HP := Lib.hid hP
      clear hP hown7 hgrow c0 c1 f0 f1
      go_wp2_with fail
      go_roundg (gk - 1)
      case measure => omega
      case rel => exact ⟨j + 1, g7, cp7, _, by omega, rfl, by go_num, HP.out.more (by omega)⟩
    · obtain rfl : j = N := by omega
      go_wp2_with fail
      go_ret
      have hd := HD.out
      have hlen := hd.len
      refine ⟨l, some ⟨g, 0, none⟩, cp, by rw [hlen]; rfl, by omega, ?_, hd.rd.more (by omega), hd.gr⟩
      unfold OwnSpans
      rw [hlen]; exact hd.own
end Go.Proofs.YtlkfaamjbecieaaDoor

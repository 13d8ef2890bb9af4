/- WALKS: places of a mailbox are drawn; the arguments of the laws of flags and of copies. -/
import Derived.Test.YtjcfjhimfbglhaaDrawUids
namespace Go.Proofs.Ytjcfjhimfbglhaa
open Go.RowKit
set_option linter.unusedVariables false

theorem grown_row {w a b : World} {r g : Nat} (h : w.grownBy a (some r)) (k : a.grownBy b (some g)) (hg : w.heap.size ≤ g) : w.grownBy b (some r) :=
  ⟨k.os.trans h.os, k.tape.trans h.tape, k.output.trans h.output, Nat.le_trans h.size k.size, fun i hi hr => (k.block i (Nat.lt_of_lt_of_le hi h.size) (by simp; omega)).trans (h.block i hi hr)⟩
theorem Rd.row {w w' : World} {r B g : Nat} (h : Rd w r B) (k : w.grownBy w' (some g)) (hg : r < g) : Rd w' r B :=
  h.keep fun j hj => k.block j (by have := h.lt; omega) (by simp; omega)
set_option maxRecDepth 100000 in
set_option maxHeartbeats 1000000 in
theorem l91Places_any (r K : Nat) (hK : K + 50 ≤ 1000000) (b : B) (v : Value) (w : World) (h : Rd w r K) (hb : BoxAt w v b) (hl10 : b.mail.length ≤ 10) :
    Calls Try.prog 54 #[.pointer (some ⟨r, 0, none⟩), v] w fun e w' => ∃ (g k cp : Nat) (ps : List Int), e = .returned (.slice (some ⟨g, 0, none⟩) k cp) ∧ (OwnInts w' w.heap.size (.slice (some ⟨g, 0, none⟩) k cp) ps ∧ ps.length = k ∧ k ≤ 11) ∧ Rd w' r (K + 20) ∧ w.grownBy w' (some r) := by
  have hlt := h.lt
  obtain ⟨j0, hj, hy0, hy1, hy2'⟩ := info_parts Try.infoInt
  obtain ⟨s, rfl, a, L, cap, rfl, hL, hcap, _, _⟩ := hb
  rw [hL] at hl10
  obtain ⟨w1, hw1⟩ : ∃ w1, w1 = (w.alloc (.cells #[.int .i64 b.next, .slice a L cap] 29)).alloc (.cells #[] 3) := ⟨_, rfl⟩
  have z1 : w1.heap[w.heap.size]? = some (.cells #[.int .i64 b.next, .slice a L cap] 29 (0, 0)) := by
    rw [hw1, Below.heap_alloc _ _ _ (by simp)]; exact heap_alloc_new w _
  have q1 : Below w.heap.size w w1 := by rw [hw1]; go_grown
  have o1 : w1.ownsRow w.heap.size 3 1 (.slice (some ⟨w.heap.size + 1, 0, none⟩) 0 0) 0 (([] : List Int).map (Value.int .i64)) := by
    have := World.ownsRow_made (base := w.heap.size) (e := 3) (size := 1) (w.alloc (.cells #[.int .i64 b.next, .slice a L cap] 29)) #[] 0 (by simp) (by unfold maxLen; omega) rfl
    rw [hw1]; simpa using this
  have HW := Lib.hid hw1; have Z1 := Lib.hid z1; have O1 := Lib.hid o1; have R1 := Lib.hid (h.below q1)
  clear hw1 z1 o1 h hL
  go_enter Try.func54, Try.ntmps54
  go_wp2_with fail
  rw [← HW.out]
  go_loopg [5, 6] L (fun gk out i wr => ∃ (n k cp g : Nat) (ps : List Int), n + gk = L ∧ k ≤ n ∧ out = .slice (some ⟨g, 0, none⟩) k cp ∧ i = .int .i64 ((n : Int) + 1) ∧ Hid (wr.ownsRow w.heap.size 3 1 (.slice (some ⟨g, 0, none⟩) k cp) k (ps.map (Value.int .i64))) ∧ Hid (wr.heap[w.heap.size]? = some (.cells #[.int .i64 b.next, .slice a L cap] 29 (0, 0))) ∧ Hid (Rd wr r (K + n)) ∧ w.grownBy wr (some r))
  case atStart => exact ⟨0, 0, 0, _, [], by omega, by omega, rfl, rfl, O1.out, Z1.out, R1.out, grown_of_below q1⟩
  case round =>
    clear Z1 O1 R1 q1 HW
    obtain ⟨n, k, cp, g, ps, hn, hkn, rfl, rfl, HO, HZ, HR, hq⟩ := hrel
    obtain ⟨c0, c1, f0, f1⟩ := two_cells HZ.out
    have zs := hq.size
    have zz := lt_of_block HZ.out
    by_cases hlt2 : n < L
    · go_wp2_with fail
      refine (pick_any r (K + n) 2 (by omega) (by omega) (by omega) _ HR.out).mono ?_
      rintro e wa ⟨x, rfl, hx, hR, gR⟩
      have hz := (gR.block _ zz (by simp; omega)).trans HZ.out
      have ho := ints_grown HO.out gR (by omega)
      have hq2 := grown_trans hq gR
      have za := gR.size
      clear c0 c1 f0 f1
      have HZ2 := Lib.hid hz; have HO2 := Lib.hid ho; have HR2 := Lib.hid hR
      clear hz ho hR gR HO HZ HR hq
      by_cases hx0 : x = 0
      · subst hx0
        have hown : (wa.alloc (.cells #[.int .i64 ((n : Int) + 1)] 3)).ownsRow w.heap.size 3 1 (.slice (some ⟨g, 0, none⟩) k cp) k (ps.map (Value.int .i64)) := HO2.out.alloc _
        have HO := Lib.hid hown
        have hbase := row_base hown
        clear hown
        go_wp2_with (at_builtin; refine wpList_append_lies _ rfl _ _ _ rfl w.heap.size 3 j0 (.int .i64 0) 1 8 Try.underlying37 hj hy0 hy1 hy2' rfl (by omega) _ k _ rfl HO.out ⟨wa.heap.size, 0, none⟩ 1 1 [.int .i64 ((n : Int) + 1)] rfl rfl (cell_one_new _ _ _) (by simp [Value.oneCell']) (by omega) (by unfold maxLen; omega) (by omega) (by simp; omega) (wa.heap.size + 1) (by simp) ?_)
        intro g2 cp2 w5 hown5 hgrow hat hlt5
        have hq5 := grown_row (grown_alloc hq2 _) hgrow hbase
        have hR5 := (HR2.out.alloc (.cells #[.int .i64 ((n : Int) + 1)] 3)).row hgrow (by show r < g; omega)
        have hz5 := block_kept ((Below.heap_alloc wa _ _ (by omega)).trans HZ2.out) (by decide) HO.out hgrow
        have r5 : w5.ownsRow w.heap.size 3 1 (.slice (some ⟨g2, 0, none⟩) (k + 1) cp2) (k + 1) ((ps ++ [(n : Int) + 1]).map (Value.int .i64)) := by rw [List.map_append]; exact hown5
        have HO5 := Lib.hid r5; have HZ5 := Lib.hid hz5; have HR5 := Lib.hid hR5
        clear hown5 hgrow hat r5 hz5 hR5 HO hbase
        go_wp2_with fail
        go_roundg (gk - 1)
        case measure => omega
        case rel => exact ⟨n + 1, k + 1, cp2, g2, _, by omega, by omega, rfl, by go_num, HO5.out, HZ5.out, HR5.out, hq5⟩
      · have hx1 : ((x : Int) == 0) = false := by simp; omega
        go_wp2_with fail
        go_roundg (gk - 1)
        case measure => omega
        case rel => exact ⟨n + 1, k, cp, g, ps, by omega, by omega, rfl, by go_num, HO2.out, HZ2.out, HR2.out, hq2⟩
    · obtain rfl : n = L := by omega
      go_wp2_with fail
      refine (pick_any r (K + n) 20 (by omega) (by omega) (by omega) _ HR.out).mono ?_
      rintro e wa ⟨x, rfl, hx, hR, gR⟩
      have ho := ints_grown HO.out gR (by omega)
      have hq2 := grown_trans hq gR
      have za := gR.size
      have HO2 := Lib.hid ho; have HR2 := Lib.hid hR
      clear ho hR gR HO HZ HR hq c0 c1 f0 f1
      by_cases hx0 : x = 0
      · subst hx0
        go_wp2_with fail
        refine (pick_any r (K + n + 1) 14 (by omega) (by omega) (by omega) _ HR2.out).mono ?_
        rintro e wb ⟨y, rfl, hy, hR, gR⟩
        have ho := ints_grown HO2.out gR (by omega)
        have hq3 := grown_trans hq2 gR
        have zb := gR.size
        have HR3 := Lib.hid hR
        have hown : (wb.alloc (.cells #[.int .i64 (y : Int)] 3)).ownsRow w.heap.size 3 1 (.slice (some ⟨g, 0, none⟩) k cp) k (ps.map (Value.int .i64)) := ho.alloc _
        have HO := Lib.hid hown
        have hbase := row_base hown
        clear hown ho hR gR
        go_wp2_with (at_builtin; refine wpList_append_lies _ rfl _ _ _ rfl w.heap.size 3 j0 (.int .i64 0) 1 8 Try.underlying37 hj hy0 hy1 hy2' rfl (by omega) _ k _ rfl HO.out ⟨wb.heap.size, 0, none⟩ 1 1 [.int .i64 (y : Int)] rfl rfl (cell_one_new _ _ _) (by simp [Value.oneCell']) (by omega) (by unfold maxLen; omega) (by omega) (by simp; omega) (wb.heap.size + 1) (by simp) ?_)
        intro g2 cp2 w5 hown5 hgrow hat hlt5
        have hq5 := grown_row (grown_alloc hq3 _) hgrow hbase
        have hR5 := (HR3.out.alloc (.cells #[.int .i64 (y : Int)] 3)).row hgrow (by show r < g; omega)
        have r5 : w5.ownsRow w.heap.size 3 1 (.slice (some ⟨g2, 0, none⟩) (k + 1) cp2) (k + 1) ((ps ++ [(y : Int)]).map (Value.int .i64)) := by rw [List.map_append]; exact hown5
        obtain ⟨m1, m2⟩ := OwnInts.mk r5
        have M1 := Lib.hid m1; have M2 := Lib.hid m2; have HR5 := Lib.hid hR5
        clear hown5 hgrow hat r5 m1 m2 hR5 HO hbase
        go_wp2_with fail
        go_ret
        exact ⟨g2, k + 1, cp2, _, rfl, ⟨M1.out, M2.out, by omega⟩, HR5.out.more (by omega), hq5⟩
      · have hx1 : ((x : Int) == 0) = false := by simp; omega
        obtain ⟨m1, m2⟩ := OwnInts.mk HO2.out
        have M1 := Lib.hid m1; have M2 := Lib.hid m2
        clear m1 m2
        go_wp2_with fail
        go_ret
        exact ⟨g, k, cp, ps, rfl, ⟨M1.out, M2.out, by omega⟩, HR2.out.more (by omega), hq2⟩
set_option maxRecDepth 100000 in
set_option maxHeartbeats 1000000 in
theorem DrawBoxFlags_any (a : Option Addr) (len cap : Nat) (hcap : len ≤ cap) (w : World) (hc : CodeAt w a len) :
    Calls Try.prog 27 #[.slice a len cap] w fun e w' => ∃ (b : B) (a : Option Addr) (cap g k cp : Nat) (ps : List Int) (how o : Int), e = .returned (.tuple #[.agg #[.int .i64 b.next, .slice a b.mail.length cap], .slice (some ⟨g, 0, none⟩) k cp, .int .i64 how, .int .i64 o]) ∧ Drawn w' w.heap.size (.slice a b.mail.length cap) b ∧ (OwnInts w' w.heap.size (.slice (some ⟨g, 0, none⟩) k cp) ps ∧ ps.length = k ∧ k ≤ 11) ∧ Below w.heap.size w w' := by
  go_enter Try.func27, Try.ntmps27
  go_wp2_with fail
  obtain ⟨w0, hw0⟩ : ∃ w0, w0 = w.alloc (.cells #[.int .i64 0, .slice none 0 0] 29) := ⟨_, rfl⟩
  have z0 : w0.heap[w.heap.size]? = some (.cells #[.int .i64 0, .slice none 0 0] 29 (0, 0)) := by rw [hw0]; exact heap_alloc_new w _
  have b0 : Below w.heap.size w w0 := by rw [hw0]; exact (Below.refl _ _).alloc (Nat.le_refl _) _
  have s0 : w0.heap.size = w.heap.size + 1 := by rw [hw0]; simp
  rw [← hw0]
  refine (l6Open_any a len cap hcap w0 (hc.below b0)).mono ?_
  clear hc hw0
  rintro e w1 ⟨r, hr, rfl, h1, b1⟩
  have z1 := (b1.block _ (by omega)).trans z0
  have b1' := b0.trans (b1.mono b0.size)
  have s1 := b1.size
  have l1 := h1.lt
  clear z0 b0 b1
  go_wp2_with fail
  refine (l91Box_at r 0 (by omega) _ h1).mono ?_
  rintro e w2 ⟨b, a2, cap2, rfl, hb, h2, g2⟩
  have z2 := (g2.block w.heap.size (by omega) (by simp; omega)).trans z1
  have b2 := b1'.grown g2 b1'.size (fun k hk => by cases hk; omega)
  have s2 := g2.size
  have hbd := hb.1
  obtain ⟨wx, hwx⟩ : ∃ wx, wx = w2.alloc (.cells #[.int .i64 b.next, .slice a2 b.mail.length cap2] 29) := ⟨_, rfl⟩
  have hbox : wx.heap[w2.heap.size]? = some (.cells #[.int .i64 b.next, .slice a2 b.mail.length cap2] 29 (0, 0)) := by rw [hwx]; exact heap_alloc_new w2 _
  have qx : Below w2.heap.size w2 wx := by rw [hwx]; exact (Below.refl _ _).alloc (Nat.le_refl _) _
  have sx : wx.heap.size = w2.heap.size + 1 := by rw [hwx]; simp
  have HW := Lib.hid hwx
  have bx := b2.trans (qx.mono b2.size)
  have zx := (qx.block _ (by omega)).trans z2
  have hx := h2.below qx
  have HB := Lib.hid (hb.below qx)
  clear z1 z2 b1' h1 h2 g2 hb b2 hwx qx
  go_wp2_with fail
  rw [← HW.out]
  refine (l91Places_any r 100 (by omega) b _ _ hx HB.out.box hbd.2.2).mono ?_
  rintro e w3 ⟨g, k, cp, ps, rfl, ⟨ho, hpl, hk⟩, h3, g3⟩
  have hD : DU w r w1.heap.size w2.heap.size 120 b a2 cap2 g k cp ps w3 := by
    have hi := ho.more (base' := w1.heap.size) (by omega)
    unfold OwnInts at hi
    rw [hpl] at hi
    exact ⟨h3, (g3.block w2.heap.size (by omega) (by simp; omega)).trans hbox, (HB.out.grown g3 l1).2, hi, (g3.block w.heap.size (by omega) (by simp; omega)).trans zx, bx.grown g3 bx.size (fun k hk => by cases hk; omega), by omega, by omega, by omega⟩
  have HD := Lib.hid hD
  have HPL := Lib.hid hpl
  clear HW HB zx bx hx hbox g3 ho hpl hD h3
  obtain ⟨d0, d1, e0, e1⟩ := two_cells HD.out.box
  have n1 := ne_two (show w.heap.size < w2.heap.size by omega)
  go_upto_region 4 with fail
  go_cut [3, 4, 5] (fun q hv fv wx => ∃ how o : Int, q = .slice (some ⟨g, 0, none⟩) k cp ∧ hv = .int .i64 how ∧ fv = .int .i64 o ∧ Hid (wx.heap[w.heap.size]? = some (.cells #[.int .i64 b.next, .slice a2 b.mail.length cap2] 29 (0, 0))) ∧ Hid (Own wx w1.heap.size (.slice a2 b.mail.length cap2) b.mail) ∧ Hid (wx.ownsRow w1.heap.size 3 1 (.slice (some ⟨g, 0, none⟩) k cp) k (ps.map (Value.int .i64))) ∧ Below w.heap.size w wx)
  case first =>
    go_region_held3 (fun W => W.cell? ⟨w2.heap.size, 0, none⟩ = some (.int .i64 b.next) ∧ W.cell? ⟨w2.heap.size, 1, none⟩ = some (.slice a2 b.mail.length cap2)) (first | exact ⟨d0, d1⟩ | (go_keep; done))
      (first
      | (go_at_call 56; refine (l91Flags_any r 122 ?_ _ ?_).mono ?_; omega; exact DU.rd (DU.below HE2.out (by go_grown)); rintro e w6 ⟨fo, rfl, hfo, hR, gR⟩; have hM := DU.call (HE2.out.below (by go_grown)) hR gR; obtain ⟨d0, d1, e0, e1⟩ := two_cells hM.box; obtain ⟨c0, c1, f0, f1⟩ := two_cells hM.zero; have l6 := hM.lt; have HE3 := Lib.hid hM; clear hR gR hM)
      | (have hx := HE1; go_at_call 55; refine (pick_any r 121 24 ?_ ?_ ?_ _ ?_).mono ?_; omega; omega; omega; exact DU.rd (DU.below HE1.out (by go_grown)); rintro e w5 ⟨x5, rfl, hx5, hR, gR⟩; have hM := DU.call (HE1.out.below (by go_grown)) hR gR; obtain ⟨d0, d1, e0, e1⟩ := two_cells hM.box; have HE2 := Lib.hid hM; clear hR gR hM hx HE1)
      | (go_at_call 55; refine (pick_any r 120 3 ?_ ?_ ?_ _ ?_).mono ?_; omega; omega; omega; exact DU.rd (DU.below HD.out (by go_grown)); rintro e w4 ⟨x4, rfl, hx4, hR, gR⟩; have hM := DU.call (HD.out.below (by go_grown)) hR gR; obtain ⟨d0, d1, e0, e1⟩ := two_cells hM.box; have HE1 := Lib.hid hM; clear hR gR hM))
    all_goals
      go_wp2_with fail
      go_meet
      exact ⟨_, fo, rfl, rfl, rfl, set_one (set_zero HE3.out.zero), (HE3.out.own.setLow (by show w.heap.size < _; omega) _).setLow (by show w.heap.size < _; omega) _, ownsRow_setCell_below (ownsRow_setCell_below HE3.out.ints (by show w.heap.size < _; omega) _) (by show w.heap.size < _; omega) _, (HE3.out.bel.setCell (by show w.heap.size ≤ w.heap.size; omega) _).setCell (by show w.heap.size ≤ w.heap.size; omega) _⟩
  case rest =>
    obtain ⟨how, o, rfl, rfl, rfl, Z, HO, HI2, bel⟩ := hcut
    obtain ⟨c0, c1, f0, f1⟩ := two_cells Z.out
    obtain ⟨m1, m2⟩ := OwnInts.mk HI2.out
    have M1 := Lib.hid m1
    clear m1 m2
    go_wp2_with fail
    refine bodyPost_ret (v := .tuple #[.agg #[.int .i64 b.next, .slice a2 b.mail.length cap2], .slice (some ⟨g, 0, none⟩) k cp, .int .i64 how, .int .i64 o]) (by simp [results, Try.results27, go_sem, *]) rfl ⟨b, _, _, g, k, cp, ps, how, o, rfl, ⟨hbd, HO.out.more (by omega)⟩, ⟨M1.out.more (by omega), HPL.out, hk⟩, bel⟩
end Go.Proofs.Ytjcfjhimfbglhaa

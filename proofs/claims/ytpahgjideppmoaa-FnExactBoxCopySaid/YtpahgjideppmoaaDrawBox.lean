/- WALKS: how a mailbox is drawn. -/
import Derived.Test.YtpahgjideppmoaaMid
import Derived.Deep.RegionHeld3
import Derived.Deep.DeepCutAuto
import Derived.Deep.LoopGhost
namespace Go.Proofs.Ytpahgjideppmoaa
open Go.RowKit
set_option linter.unusedVariables false

theorem appendTo_true {b : B} {f : Int} {t : ByteArray} (h : (appendTo b f t).2 = true) : 1 ≤ (appendTo b f t).1.next ∧ (appendTo b f t).1.next ≤ 100 ∧ (appendTo b f t).1.mail.length ≤ 10 := by
  by_cases hh : bok b && fok f && decide (t.size ≤ 20)
  · have hb : bok b = true := by simp at hh; exact hh.1.1
    have := bok_next hb
    unfold appendTo addTo at h ⊢
    rw [if_pos hh] at h ⊢
    split at h
    · cases h
    · next hc => rw [if_neg hc]; simp; omega
  · unfold appendTo at h
    rw [if_neg hh] at h
    cases h
theorem expunge_len (b : B) (h : b.mail.length ≤ 10) (h0 : 0 ≤ b.next) (h1 : b.next ≤ 102) : (expunge b).1.mail.length ≤ 10 ∧ 0 ≤ (expunge b).1.next ∧ (expunge b).1.next ≤ 102 := by
  unfold expunge
  split
  · have := exTo_len b.mail
    dsimp only; omega
  · simp [nobox]

set_option maxRecDepth 8000 in
set_option maxHeartbeats 8000000 in
theorem l91Box_any (r K : Nat) (hK : K + 200 ≤ 1000000) (w : World) (h : Rd w r K) :
    Calls Try.prog 29 #[.pointer (some ⟨r, 0, none⟩)] w fun e w' => ∃ (b : B) (s : Value), e = .returned (.agg #[.int .i64 b.next, s]) ∧ (0 ≤ b.next ∧ b.next ≤ 102 ∧ b.mail.length ≤ 10) ∧ Own w' w.heap.size s b.mail ∧ Rd w' r (K + 100) ∧ w.grownBy w' (some r) := by
  have hlt := h.lt
  obtain ⟨w1, hw1⟩ : ∃ w1, w1 = w.alloc (.cells #[.int .i64 0, .slice none 0 0] 29) := ⟨_, rfl⟩
  have a0 : w1.heap[w.heap.size]? = some (.cells #[.int .i64 0, .slice none 0 0] 29 (0, 0)) := by rw [hw1]; exact heap_alloc_new w _
  have aR : Rd w1 r K := by rw [hw1]; exact h.alloc _
  have aG : w.grownBy w1 (some r) := by rw [hw1]; exact grown_alloc (grown_refl _ _) _
  have aS : w1.heap.size = w.heap.size + 1 := by rw [hw1]; simp
  have HW := Lib.hid hw1
  clear hw1
  go_enter Try.func29, Try.ntmps29
  go_wp2_with fail
  rw [← HW.out]
  refine (pick_any r K 3 (by omega) (by omega) (by omega) _ aR).mono ?_
  rintro e w2 ⟨m, rfl, hm, hR, gR⟩
  have z2 : w.heap.size + 1 ≤ w2.heap.size := by have := gR.size; omega
  have hM : Mid w r w2.heap.size (w2.heap.size + 1) (K + 1) ⟨1 + (m : Int), []⟩ (.slice (some ⟨w2.heap.size, 0, none⟩) 0 0) ((w2.alloc (.cells #[] 47)).alloc (.cells #[.int .i64 (1 + (m : Int)), .slice (some ⟨w2.heap.size, 0, none⟩) 0 0] 29)) := by
    refine ⟨(hR.alloc _).alloc _, ?_, ?_, ?_, grown_alloc (grown_alloc (grown_trans aG gR) _) _, hlt, by omega, by omega⟩
    · have := heap_alloc_new (w2.alloc (.cells #[] 47)) (.cells #[.int .i64 (1 + (m : Int)), .slice (some ⟨w2.heap.size, 0, none⟩) 0 0] 29)
      simpa using this
    · exact (World.ownsRow_made (base := w2.heap.size) (e := 47) (size := 3) w2 #[] 0 (Nat.le_refl _) (by unfold maxLen; omega) rfl).alloc _
    · rw [Below.heap_alloc _ _ _ (by simp; omega), Below.heap_alloc _ _ _ (by omega)]
      exact (gR.block _ (by omega) (by simp; omega)).trans a0
  have HM := Lib.hid hM
  clear a0 aR aG hR gR hM
  go_wp2_with fail
  obtain ⟨w3, hw3⟩ : ∃ w3, w3 = (w2.alloc (.cells #[] 47)).alloc (.cells #[.int .i64 (1 + (m : Int)), .slice (some ⟨w2.heap.size, 0, none⟩) 0 0] 29) := ⟨_, rfl⟩
  rw [← hw3] at HM ⊢
  clear hw3
  refine (pick_any r (K + 1) 8 (by omega) (by omega) (by omega) _ HM.out.rd).mono ?_
  rintro e w4 ⟨n0, rfl, hn0, hR, gR⟩
  replace HM := Lib.hid (HM.out.call hR gR)
  clear hR gR
  go_wp2_with fail
  refine (pick_any r (K + 2) 12 (by omega) (by omega) (by omega) _ HM.out.rd).mono ?_
  rintro e w5 ⟨q, rfl, hq, hR, gR⟩
  replace HM := Lib.hid (HM.out.call hR gR)
  clear hR gR
  go_upto_if 17 with fail
  go_cut [4] (fun n wx => ∃ k : Nat, k ≤ 14 ∧ n = .int .i64 k ∧ wx = w5)
  case first =>
    by_cases hq0 : q = 0
    · subst hq0
      go_wp2_with fail
      go_meet
      exact ⟨14, by omega, rfl, rfl⟩
    · have hq1 : ((q : Int) == 0) = false := by simp; omega
      go_wp2_with fail
      go_meet
      exact ⟨n0, by omega, rfl, rfl⟩
  case rest =>
    obtain ⟨k, hk, rfl, rfl⟩ := hcut
    go_wp2_with fail
    go_loopg [5] k (fun g i wr => ∃ (j : Nat) (b : B) (s : Value), j + g = k ∧ i = .int .i64 j ∧ (0 ≤ b.next ∧ b.next ≤ 102 ∧ b.mail.length ≤ 10) ∧ Hid (Mid w r w2.heap.size (w2.heap.size + 1) (K + 3 + 5 * j) b s wr))
    case atStart => exact ⟨0, _, _, by omega, rfl, by dsimp only; simp; omega, HM.out⟩
    case round =>
      clear HM
      obtain ⟨j, b, s, hj, rfl, hb, HM⟩ := hrel
      by_cases hjk : j < k
      · obtain ⟨a, cap, rfl⟩ := HM.out.own.slice
        obtain ⟨c0, c1, f0, f1⟩ := HM.out.cells
        obtain ⟨l1, l2, l3⟩ := HM.out.lt
        have n6 := ne_both l1
        go_upto_region 8 with fail
        go_cut [6, 7] (fun p q wx => ∃ (R : B × Bool) (a' : Option Addr) (cap' g : Nat), p = .pointer (some ⟨g, 0, none⟩) ∧ q = .bool R.2 ∧ (R.2 = true → 0 ≤ R.1.next ∧ R.1.next ≤ 100 ∧ R.1.mail.length ≤ 10) ∧ w2.heap.size + 1 < g ∧
          Hid (wx.heap[g]? = some (.cells #[.int .i64 R.1.next, .slice a' R.1.mail.length cap'] 29 (0, 0))) ∧ Hid (Own wx w2.heap.size (.slice a' R.1.mail.length cap') R.1.mail) ∧ Hid (Mid w r w2.heap.size (w2.heap.size + 1) (K + 3 + 5 * j + 3) b (.slice a b.mail.length cap) wx))
        case first =>
          go_region_held3 (fun W => W.cell? ⟨w2.heap.size + 1, 0, none⟩ = some (.int .i64 b.next) ∧ W.cell? ⟨w2.heap.size + 1, 1, none⟩ = some (.slice a b.mail.length cap)) (first | exact ⟨c0, c1⟩ | (go_keep; done))
            (first
            | (go_at_call 42; refine (pick_any r (K + 3 + 5 * j) 32 ?_ ?_ ?_ _ ?_).mono ?_; omega; omega; omega; exact Mid.rd (Mid.below HM.out (by go_grown)); rintro e wa ⟨x, rfl, hx, hR, gR⟩; (first | have z6 := new1 gR l3 l1 | have z6 := new2 gR l3 l1 | have z6 := new0 gR l3 l1 | skip); have hM := Mid.call (HM.out.below (by go_grown)) hR gR; obtain ⟨c0, c1, f0, f1⟩ := hM.cells; obtain ⟨l1, l2, l3⟩ := hM.lt; have n6 := ne_both l1; have HN := Lib.hid hM; clear hR gR hM)
            | (go_at_call 44; refine (l91Text_any r (K + 3 + 5 * j + 1) ?_ _ ?_).mono ?_; omega; exact Mid.rd (Mid.below HN.out (by go_grown)); rintro e wb ⟨t, rfl, hR, gR⟩; (first | have z6 := old_kept z6 gR rfl | have z6 := new1 gR l3 l1 | have z6 := new2 gR l3 l1 | have z6 := new0 gR l3 l1 | skip); have hM := Mid.call (HN.out.below (by go_grown)) hR gR; obtain ⟨c0, c1, f0, f1⟩ := hM.cells; obtain ⟨l1, l2, l3⟩ := hM.lt; have n6 := ne_both l1; have HO := Lib.hid hM; clear hR gR hM)
            | (go_at_call 43; refine (specBoxAppend_any b x t _ _ ?_).mono ?_; exact ⟨_, rfl, Own.mail (Mid.own (Mid.below HO.out (by go_grown))) (by omega)⟩; rintro e wc ⟨s', rfl, ho, hq⟩; have gR := grown_of_below (row := some r) hq; (first | have z6 := old_kept z6 gR rfl | have z6 := new1 gR l3 l1 | have z6 := new2 gR l3 l1 | have z6 := new0 gR l3 l1 | skip); (first | (have Z6 := Lib.hid z6; obtain ⟨z0, _, z1⟩ := z6; obtain ⟨d0, d1, g0, g1⟩ := two_cells z0; have m6 := ne_both z1; clear z0 z1) | skip); have hT := @appendTo_true b x t; obtain ⟨R, hRR⟩ : ∃ R, appendTo b x t = R := ⟨_, rfl⟩; rw [hRR] at ho hT ⊢; obtain ⟨a', cap', rfl⟩ := ho.slice; have hM := Mid.below (HO.out.below (by go_grown)) hq; have ho2 := ho.more (base' := w2.heap.size) (by first | omega | (go_size; done) | (go_size; omega)); obtain ⟨c0, c1, f0, f1⟩ := hM.cells; obtain ⟨l1, l2, l3⟩ := hM.lt; have n6 := ne_both l1; have HP := Lib.hid hM; have HS := Lib.hid ho2; clear hM ho ho2 hq hRR gR))
          all_goals
            go_wp2_with fail
            go_meet
            first
              | exact ⟨R, a', cap', wc.heap.size, rfl, rfl, fun h => by have := hT h; omega, l1, heap_alloc_new wc _, HS.out.alloc _, (HP.out.more (by omega)).alloc _⟩
              | exact ⟨R, a', cap', _, rfl, rfl, fun h => by have := hT h; omega, Z6.out.2.2, set_one (set_zero Z6.out.1), (HS.out.box Z6.out.1 _ _).box (set_zero Z6.out.1) _ _, ((HP.out.more (by omega)).other Z6.out.1 Z6.out.2.2 _ _).other (set_zero Z6.out.1) Z6.out.2.2 _ _⟩
        case rest =>
          clear c0 c1 f0 f1 l1 l2 l3 n6 HM
          obtain ⟨R, a', cap', g, rfl, rfl, hT, hg, HG, HS, HP⟩ := hcut
          obtain ⟨c0, c1, f0, f1⟩ := HP.out.cells
          obtain ⟨d0, d1, e0, e1⟩ := two_cells HG.out
          obtain ⟨l1, l2, l3⟩ := HP.out.lt
          go_upto_if 32 with fail
          go_cut [7] (fun _ wx => ∃ (b' : B) (a' : Option Addr) (cap' : Nat), (0 ≤ b'.next ∧ b'.next ≤ 102 ∧ b'.mail.length ≤ 10) ∧ Hid (Mid w r w2.heap.size (w2.heap.size + 1) (K + 3 + 5 * j + 4) b' (.slice a' b'.mail.length cap') wx))
          case first =>
            rcases hR2 : R.2 with _ | _
            · go_wp2_with fail
              go_meet
              exact ⟨b, a, cap, hb, HP.out.more (by omega)⟩
            · have hT := hT hR2
              clear hR2
              go_upto_region 11 with fail
              have hM := HP.out.put (b' := R.1) HS.out
              obtain ⟨wd, hwd⟩ : ∃ wd, wd = (wc.setCell ⟨w2.heap.size + 1, 0, none⟩ (.int .i64 R.1.next)).setCell ⟨w2.heap.size + 1, 1, none⟩ (.slice a' R.1.mail.length cap') := ⟨_, rfl⟩
              rw [← hwd] at hM ⊢
              clear hwd c0 c1 f0 f1 d0 d1 e0 e1 l1 l2 l3 HG HS HP
              obtain ⟨c0, c1, f0, f1⟩ := hM.cells
              have HD := Lib.hid hM
              clear hM
              go_region_with (go_at_call 42; refine (pick_any r (K + 3 + 5 * j + 3) 3 ?_ ?_ ?_ _ ?_).mono ?_; omega; omega; omega; exact Mid.rd (Mid.below HD.out (by go_grown)); rintro e we ⟨y, rfl, hy, hR, gR⟩; have hM := Mid.call (HD.out.below (by go_grown)) hR gR; obtain ⟨c0, c1, f0, f1⟩ := hM.cells; have HE := Lib.hid hM; clear hR gR hM)
              all_goals
                go_wp2_with fail
                go_meet
                exact ⟨⟨IntKind.i64.wrap (R.1.next + (y : Int)), R.1.mail⟩, a', cap', by rw [IntWalk.i64_in _ (by omega)]; dsimp only; omega, HE.out.next _⟩
          case rest =>
            clear c0 c1 f0 f1 d0 d1 e0 e1 l1 l2 l3 HG HS HP hT hg hb
            obtain ⟨b', a', cap', hb, HM⟩ := hcut
            go_wp2_with fail
            refine (pick_any r (K + 3 + 5 * j + 4) 8 (by omega) (by omega) (by omega) _ HM.out.rd).mono ?_
            rintro e wd ⟨y, rfl, hy, hR, gR⟩
            replace HM := Lib.hid (HM.out.call hR gR)
            clear hR gR
            obtain ⟨c0, c1, f0, f1⟩ := HM.out.cells
            by_cases hy0 : y = 0
            · subst hy0
              go_wp2_with fail
              refine (specBoxExpunge_any b' _ _ ⟨_, rfl, HM.out.own.mail (by omega)⟩).mono ?_
              rintro e we ⟨s', gs, rfl, ho, hgs, q4⟩
              obtain ⟨l1, l2, l3⟩ := HM.out.lt
              have hM := HM.out.below q4
              have ho2 := ho.more (base' := w2.heap.size) (by omega)
              have hx := expunge_len b' hb.2.2 hb.1 hb.2.1
              clear hgs ho q4 c0 c1 f0 f1 l1 l2 l3
              obtain ⟨R2, hR2⟩ : ∃ R2, expunge b' = R2 := ⟨_, rfl⟩
              rw [hR2] at ho2 hx ⊢
              obtain ⟨a2, cap2, rfl⟩ := ho2.slice
              have hN := hM.put (b' := R2.1) ho2
              obtain ⟨c0, c1, f0, f1⟩ := hM.cells
              have HN := Lib.hid hN
              clear hM ho2 hN hR2
              go_wp2_with fail
              go_roundg (gk - 1)
              case measure => omega
              case rel => exact ⟨j + 1, R2.1, _, by omega, by go_num, by omega, HN.out.more (by omega)⟩
            · have hy1 : ((y : Int) == 0) = false := by simp; omega
              go_wp2_with fail
              go_roundg (gk - 1)
              case measure => omega
              case rel => exact ⟨j + 1, b', _, by omega, by go_num, hb, HM.out.more (by omega)⟩
      · obtain rfl : j = k := by omega
        obtain ⟨a, cap, rfl⟩ := HM.out.own.slice
        obtain ⟨c0, c1, f0, f1⟩ := HM.out.cells
        obtain ⟨l1, l2, l3⟩ := HM.out.lt
        go_wp2_with fail
        refine (pick_any r (K + 3 + 5 * j) 20 (by omega) (by omega) (by omega) _ HM.out.rd).mono ?_
        rintro e w6 ⟨x, rfl, hx, hR, gR⟩
        replace HM := Lib.hid (HM.out.call hR gR)
        clear hR gR c0 c1 f0 f1 l1 l2 l3
        obtain ⟨c0, c1, f0, f1⟩ := HM.out.cells
        obtain ⟨z0, z1, y0, y1⟩ := two_cells HM.out.zero
        obtain ⟨l1, l2, l3⟩ := HM.out.lt
        have npb := ne_both (show w.heap.size < w2.heap.size + 1 by omega)
        by_cases hx0 : x = 0
        · subst hx0
          go_wp2_with fail
          refine (pick_any r (K + 3 + 5 * j + 1) 4 (by omega) (by omega) (by omega) _ (HM.out.alloc _).rd).mono ?_
          rintro e w7 ⟨y, rfl, hy, hR, gR⟩
          have hv : ∃ v : Int, 0 ≤ v ∧ v ≤ 102 ∧ w7.cell? ⟨w6.heap.size, y, none⟩ = some (.int .i64 v) := by
            have hb4 := new0 (pb := w2.heap.size + 1) gR l3 l1
            have hy4 : y = 0 ∨ y = 1 ∨ y = 2 ∨ y = 3 := by omega
            rcases hy4 with rfl | rfl | rfl | rfl
            · exact ⟨0, by omega, by omega, cell_of_block hb4.1 rfl⟩
            · exact ⟨99, by omega, by omega, cell_of_block hb4.1 rfl⟩
            · exact ⟨100, by omega, by omega, cell_of_block hb4.1 rfl⟩
            · exact ⟨101, by omega, by omega, cell_of_block hb4.1 rfl⟩
          obtain ⟨v, hv0, hv1, hvc⟩ := hv
          have hM := (HM.out.alloc _).call hR gR
          clear hR gR c0 c1 f0 f1 l1 l2 l3 z0 z1 y0 y1
          obtain ⟨c0, c1, f0, f1⟩ := hM.cells
          obtain ⟨z0, z1, y0, y1⟩ := two_cells hM.zero
          obtain ⟨l1, l2, l3⟩ := hM.lt
          have HN := Lib.hid (hM.next v)
          clear hM
          have hy' : y < 4 := by omega
          go_wp2_with fail
          refine bodyPost_ret (v := .agg #[.int .i64 v, .slice a b.mail.length cap]) (by simp [results, Try.results29, go_sem, *]) rfl ⟨⟨v, b.mail⟩, _, rfl, by dsimp only; omega, ?_⟩
          exact HN.out.done (by omega)
        · have hx0' : ((x : Int) == 0) = false := by simp; omega
          by_cases hx1 : x = 1
          · subst hx1
            by_cases hlen : 0 < b.mail.length
            · obtain ⟨g, rfl, hcap, hg1, hg2⟩ := HM.out.own.form2 hlen
              have hgp := HM.out.gpb
              have hlen' : (0 : Int) < (b.mail.length : Int) := by omega
              go_wp2_with fail
              go_region_held3 (fun W => W.cell? ⟨w2.heap.size + 1, 1, none⟩ = some (.slice (some ⟨g, 0, none⟩) b.mail.length cap)) (first | exact c1 | (go_keep; done))
                (first
                | (have hn := HN; go_at_call 42; refine (pick_any r (K + 3 + 5 * j + 2) 12 ?_ ?_ ?_ _ ?_).mono ?_; omega; omega; omega; exact Mid.rd (Mid.below HN.out (by go_grown)); rintro e w8 ⟨u, rfl, hu, hR, gR⟩; have hM := Mid.call (HN.out.below (by go_grown)) hR gR; obtain ⟨c0, c1, f0, f1⟩ := hM.cells; obtain ⟨z0, z1, y0, y1⟩ := two_cells hM.zero; obtain ⟨m0, hm0, i0, i1, i2, i3⟩ := hM.own.at hy'; have HO := Lib.hid hM; clear hR gR hM hn)
                | (go_at_call 42; refine (pick_any r (K + 3 + 5 * j + 1) (b.mail.length : Int) ?_ ?_ ?_ _ ?_).mono ?_; omega; omega; omega; exact Mid.rd (Mid.below HM.out (by go_grown)); rintro e w7 ⟨y, rfl, hy, hR, gR⟩; have hM := Mid.call (HM.out.below (by go_grown)) hR gR; obtain ⟨c0, c1, f0, f1⟩ := hM.cells; have HN := Lib.hid hM; have hy' : y < b.mail.length := (by omega); clear hR gR hM))
              have hM := HO.out.mail (l' := b.mail.set y { m0 with uid := (u : Int) }) rfl (by simp) (j := y * 3) (by omega) (.int .i64 (u : Int)) ((rowOf_set _ _ _ hm0).1 (u : Int)).symm
              obtain ⟨w9, hw9⟩ : ∃ w9, w9 = w8.setCell ⟨g, y * 3, none⟩ (.int .i64 (u : Int)) := ⟨_, rfl⟩
              rw [← hw9] at hM ⊢
              clear hw9 c0 c1 f0 f1 z0 z1 y0 y1 i0 i1 i2 i3
              obtain ⟨c0, c1, f0, f1⟩ := hM.cells
              obtain ⟨z0, z1, y0, y1⟩ := two_cells hM.zero
              have HQ := Lib.hid hM
              clear hM
              go_wp2_with fail
              refine bodyPost_ret (v := .agg #[.int .i64 b.next, .slice (some ⟨g, 0, none⟩) b.mail.length cap]) (by simp [results, Try.results29, go_sem, *]) rfl ⟨⟨b.next, b.mail.set y { m0 with uid := (u : Int) }⟩, _, rfl, by simp; omega, ?_⟩
              exact HQ.out.done (by omega)
            · have hlen' : b.mail.length = 0 := by omega
              go_wp2_with fail
              refine bodyPost_ret (v := .agg #[.int .i64 b.next, .slice a b.mail.length cap]) (by simp [results, Try.results29, go_sem, *]) rfl ⟨b, _, rfl, hb, ?_⟩
              exact HM.out.done (by omega)
          · have hx1' : ((x : Int) == 1) = false := by simp; omega
            by_cases hx2 : x = 2
            · subst hx2
              by_cases hlen : 0 < b.mail.length
              · obtain ⟨g, rfl, hcap, hg1, hg2⟩ := HM.out.own.form2 hlen
                have hgp := HM.out.gpb
                have hlen' : (0 : Int) < (b.mail.length : Int) := by omega
                go_wp2_with fail
                go_region_held3 (fun W => W.cell? ⟨w2.heap.size + 1, 1, none⟩ = some (.slice (some ⟨g, 0, none⟩) b.mail.length cap)) (first | exact c1 | (go_keep; done))
                  ((go_at_call 42; refine (pick_any r (K + 3 + 5 * j + 1) (b.mail.length : Int) ?_ ?_ ?_ _ ?_).mono ?_; omega; omega; omega; exact Mid.rd (Mid.below HM.out (by go_grown)); rintro e w8 ⟨y, rfl, hy, hR, gR⟩; have hM := Mid.call (HM.out.below (by go_grown)) hR gR; obtain ⟨c0, c1, f0, f1⟩ := hM.cells; have hy' : y < b.mail.length := (by omega); obtain ⟨z0, z1, y0, y1⟩ := two_cells hM.zero; obtain ⟨m0, hm0, i0, i1, i2, i3⟩ := hM.own.at hy'; have HO := Lib.hid hM; clear hR gR hM))
                have hM := HO.out.mail (l' := b.mail.set y { m0 with flags := 32 }) rfl (by simp) (j := y * 3 + 1) (by omega) (.int .i64 32) ((rowOf_set _ _ _ hm0).2 32).symm
                obtain ⟨w9, hw9⟩ : ∃ w9, w9 = w8.setCell ⟨g, y * 3 + 1, none⟩ (.int .i64 32) := ⟨_, rfl⟩
                rw [← hw9] at hM ⊢
                clear hw9 c0 c1 f0 f1 z0 z1 y0 y1 i0 i1 i2 i3
                obtain ⟨c0, c1, f0, f1⟩ := hM.cells
                obtain ⟨z0, z1, y0, y1⟩ := two_cells hM.zero
                have HQ := Lib.hid hM
                clear hM
                go_wp2_with fail
                refine bodyPost_ret (v := .agg #[.int .i64 b.next, .slice (some ⟨g, 0, none⟩) b.mail.length cap]) (by simp [results, Try.results29, go_sem, *]) rfl ⟨⟨b.next, b.mail.set y { m0 with flags := 32 }⟩, _, rfl, by simp; omega, ?_⟩
                exact HQ.out.done (by omega)
              · have hlen' : b.mail.length = 0 := by omega
                go_wp2_with fail
                refine bodyPost_ret (v := .agg #[.int .i64 b.next, .slice a b.mail.length cap]) (by simp [results, Try.results29, go_sem, *]) rfl ⟨b, _, rfl, hb, ?_⟩
                exact HM.out.done (by omega)
            · have hx2' : ((x : Int) == 2) = false := by simp; omega
              go_wp2_with fail
              refine bodyPost_ret (v := .agg #[.int .i64 b.next, .slice a b.mail.length cap]) (by simp [results, Try.results29, go_sem, *]) rfl ⟨b, _, rfl, hb, ?_⟩
              exact HM.out.done (by omega)
end Go.Proofs.Ytpahgjideppmoaa

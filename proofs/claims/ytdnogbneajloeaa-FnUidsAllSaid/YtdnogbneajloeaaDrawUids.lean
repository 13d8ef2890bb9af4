/- WALKS: a mailbox and numbers are drawn. -/
import Derived.Test.YtdnogbneajloeaaDraws
import Derived.Test.YtdnogbneajloeaaUids
import Derived.Test.YtdnogbneajloeaaApp
import Derived.Deep.RegionHeld3
import Derived.Deep.LoopGhost
namespace Go.Proofs.Ytdnogbneajloeaa
open Go.RowKit
set_option linter.unusedVariables false

/-- What is known while numbers are drawn: the reader, the mailbox in its variable, its row, the numbers so far, the result's place. -/
structure DU (w : World) (r base yb K : Nat) (b : B) (a : Option Addr) (cap g k cp : Nat) (us : List Int) (v : World) : Prop where
  rd : Rd v r K
  box : v.heap[yb]? = some (.cells #[.int .i64 b.next, .slice a b.mail.length cap] 29 (0, 0))
  own : Own v base (.slice a b.mail.length cap) b.mail
  ints : v.ownsRow base 3 1 (.slice (some ⟨g, 0, none⟩) k cp) k (us.map (Value.int .i64))
  zero : v.heap[w.heap.size]? = some (.cells #[.int .i64 0, .slice none 0 0] 29 (0, 0))
  bel : Below w.heap.size w v
  h1 : w.heap.size < r
  h2 : r < base
  h3 : base ≤ yb
theorem ints_grown {w w' : World} {base r : Nat} {v : Value} {n : Nat} {xs : List Value} (h : w.ownsRow base 3 1 v n xs) (g : w.grownBy w' (some r)) (hr : r < base) : w'.ownsRow base 3 1 v n xs := by
  refine World.ownsRow.kept h g ?_
  rcases h.2 with ⟨rfl, _⟩ | ⟨g, cap, cur, rfl, hb, _⟩
  · exact .inl rfl
  · right; intro e; simp [Value.ownBlock] at e; omega
theorem DU.call {w v v' : World} {r base yb K K' : Nat} {b : B} {a : Option Addr} {cap g k cp : Nat} {us : List Int} (h : DU w r base yb K b a cap g k cp us v) (hr : Rd v' r K') (hg : v.grownBy v' (some r)) : DU w r base yb K' b a cap g k cp us v' :=
  have := h.h1; have := h.h2; have := h.h3
  ⟨hr, (hg.block _ (lt_of_block h.box) (by simp; omega)).trans h.box, h.own.grown hg h.h2, ints_grown h.ints hg h.h2, (hg.block _ (lt_of_block h.zero) (by simp; omega)).trans h.zero,
    h.bel.grown hg h.bel.size (fun k hk => by cases hk; omega), h.h1, h.h2, h.h3⟩
theorem DU.below {w v v' : World} {r base yb K : Nat} {b : B} {a : Option Addr} {cap g k cp : Nat} {us : List Int} (h : DU w r base yb K b a cap g k cp us v) (hb : Below v.heap.size v v') : DU w r base yb K b a cap g k cp us v' :=
  h.call (h.rd.below hb) (grown_of_below hb)
theorem DU.more {w v : World} {r base yb K K' : Nat} {b : B} {a : Option Addr} {cap g k cp : Nat} {us : List Int} (h : DU w r base yb K b a cap g k cp us v) (hK : K ≤ K') : DU w r base yb K' b a cap g k cp us v :=
  ⟨h.rd.more hK, h.box, h.own, h.ints, h.zero, h.bel, h.h1, h.h2, h.h3⟩
/-- One number more. -/
theorem DU.push {w v v' : World} {r base yb K : Nat} {b : B} {a : Option Addr} {cap g k cp g' k' cp' : Nat} {us us' : List Int} (h : DU w r base yb K b a cap g k cp us v) (hg : v.grownBy v' (some g)) (hi : v'.ownsRow base 3 1 (.slice (some ⟨g', 0, none⟩) k' cp') k' (us'.map (Value.int .i64))) : DU w r base yb K b a cap g' k' cp' us' v' := by
  have e1 := h.h1; have e2 := h.h2; have e3 := h.h3
  have hb := row_base h.ints
  have hg2 : v.grownBy v' (Value.slice (some ⟨g, 0, none⟩) k cp).ownBlock := hg
  refine ⟨h.rd.keep fun j hj => hg.block j (by have := h.rd.lt; omega) (by simp; omega), block_kept h.box (by decide) h.ints hg2, row_kept h.own h.ints (by decide) hg2, hi, (hg.block _ (lt_of_block h.zero) (by simp; omega)).trans h.zero,
    h.bel.grown hg h.bel.size (fun k hk => by cases hk; omega), e1, e2, e3⟩
theorem DU.lt {w v : World} {r base yb K : Nat} {b : B} {a : Option Addr} {cap g k cp : Nat} {us : List Int} (h : DU w r base yb K b a cap g k cp us v) : yb < v.heap.size ∧ w.heap.size < v.heap.size ∧ base ≤ v.heap.size := by
  have e1 := h.h1; have e2 := h.h2; have e3 := h.h3
  have := lt_of_block h.box
  omega
def uidAt (b : B) (i : Nat) : Int := match b.mail[i]? with | some m => m.uid | none => 0
theorem uids_at {w : World} {base g cap : Nat} {b : B} (h : Own w base (.slice (some ⟨g, 0, none⟩) b.mail.length cap) b.mail) : ∀ i, i < b.mail.length → w.cell? ⟨g, i * 3, none⟩ = some (.int .i64 (uidAt b i)) := by
  intro i hi
  obtain ⟨m, hm, c0, _⟩ := h.at hi
  rw [c0]; unfold uidAt; rw [hm]
set_option maxHeartbeats 2000000 in
theorem DrawBoxUids_any (a : Option Addr) (len cap : Nat) (hcap : len ≤ cap) (w : World) (hc : CodeAt w a len) :
    Calls Try.prog 29 #[.slice a len cap] w fun e w' => ∃ (b : B) (a : Option Addr) (cap g k cp : Nat) (us : List Int), e = .returned (.tuple #[.agg #[.int .i64 b.next, .slice a b.mail.length cap], .slice (some ⟨g, 0, none⟩) k cp]) ∧ Drawn w' w.heap.size (.slice a b.mail.length cap) b ∧ (OwnInts w' w.heap.size (.slice (some ⟨g, 0, none⟩) k cp) us ∧ us.length = k ∧ k ≤ 4) ∧ Below w.heap.size w w' := by
  obtain ⟨j0, hj, hy0, hy1, hy2'⟩ := info_parts Try.infoInt
  go_enter Try.func29, Try.ntmps29
  go_wp2_with fail
  obtain ⟨w0, hw0⟩ : ∃ w0, w0 = w.alloc (.cells #[.int .i64 0, .slice none 0 0] 29) := ⟨_, rfl⟩
  have z0 : w0.heap[w.heap.size]? = some (.cells #[.int .i64 0, .slice none 0 0] 29 (0, 0)) := by rw [hw0]; exact heap_alloc_new w _
  have b0 : Below w.heap.size w w0 := by rw [hw0]; exact (Below.refl _ _).alloc (Nat.le_refl _) _
  have s0 : w0.heap.size = w.heap.size + 1 := by rw [hw0]; simp
  rw [← hw0]
  refine (l6Open_any a len cap hcap w0 (hc.below b0)).mono ?_
  clear hc hw0
  rintro e w1 ⟨r, hr, rfl, h1, b1⟩
  have z1 := (b1.block _ (by omega)).trans z0
  have b1' := b0.trans (b1.mono b0.size)
  have s1 := b1.size
  have l1 := h1.lt
  clear z0 b0 b1
  go_wp2_with fail
  refine (l91Box_at r 0 (by omega) _ h1).mono ?_
  rintro e w2 ⟨b, a2, cap2, rfl, hb, h2, g2⟩
  have z2 := (g2.block w.heap.size (by omega) (by simp; omega)).trans z1
  have b2 := b1'.grown g2 b1'.size (fun k hk => by cases hk; omega)
  have s2 := g2.size
  have hbd := hb.1
  obtain ⟨w3, hw3⟩ : ∃ w3, w3 = (w2.alloc (.cells #[.int .i64 b.next, .slice a2 b.mail.length cap2] 29)).alloc (.cells #[] 3) := ⟨_, rfl⟩
  have hbox : w3.heap[w2.heap.size]? = some (.cells #[.int .i64 b.next, .slice a2 b.mail.length cap2] 29 (0, 0)) := by
    rw [hw3, Below.heap_alloc _ _ _ (by simp)]; exact heap_alloc_new w2 _
  have hints : w3.ownsRow w1.heap.size 3 1 (.slice (some ⟨w2.heap.size + 1, 0, none⟩) 0 0) 0 (([] : List Int).map (Value.int .i64)) := by
    have := World.ownsRow_made (base := w1.heap.size) (e := 3) (size := 1) (w2.alloc (.cells #[.int .i64 b.next, .slice a2 b.mail.length cap2] 29)) #[] 0 (by simp; omega) (by unfold maxLen; omega) rfl
    rw [hw3]; simpa using this
  have hD : DU w r w1.heap.size w2.heap.size 100 b a2 cap2 (w2.heap.size + 1) 0 0 [] w3 := by
    have q3 : Below w2.heap.size w2 w3 := by rw [hw3]; go_grown
    exact ⟨h2.below q3, hbox, hb.2.below q3, hints, (q3.block _ (by omega)).trans z2, b2.trans (q3.mono b2.size), by omega, by omega, by omega⟩
  have HW := Lib.hid hw3
  have HD := Lib.hid hD
  clear z1 z2 b1' h1 h2 g2 hb b2 hw3 hbox hints hD
  go_wp2_with fail
  rw [← HW.out]
  refine (pick_any r 100 5 (by omega) (by omega) (by omega) _ HD.out.rd).mono ?_
  rintro e w4 ⟨N, rfl, hN, hR, gR⟩
  replace HD := Lib.hid (HD.out.call hR gR)
  clear hR gR HW
  go_wp2_with fail
  go_loopg [6, 8] N (fun gk out i wr => ∃ (j k cp g : Nat) (us : List Int), j + gk = N ∧ k ≤ j ∧ out = .slice (some ⟨g, 0, none⟩) k cp ∧ i = .int .i64 j ∧ Hid (DU w r w1.heap.size w2.heap.size (101 + 2 * j) b a2 cap2 g k cp us wr))
  case atStart => exact ⟨0, 0, 0, _, [], by omega, by omega, rfl, rfl, HD.out⟩
  case round =>
    clear HD
    obtain ⟨j, k, cp, g, us, hj2, hkj, rfl, rfl, HD⟩ := hrel
    obtain ⟨c0, c1, f0, f1⟩ := two_cells HD.out.box
    obtain ⟨l2, l3, l4⟩ := HD.out.lt
    by_cases hlt : j < N
    · have hl10 := hbd.2.2
      by_cases hpos : 0 < (b.mail.length : Int)
      · go_wp2_with fail
        refine (pick_any r (101 + 2 * j) 3 (by omega) (by omega) (by omega) _ HD.out.rd).mono ?_
        rintro e w5 ⟨x, rfl, hx, hR, gR⟩
        replace HD := Lib.hid (HD.out.call hR gR)
        clear c0 c1 f0 f1 l2 l3 l4 hR gR
        by_cases hx0 : 0 < (x : Int)
        · obtain ⟨c0, c1, f0, f1⟩ := two_cells HD.out.box
          obtain ⟨l2, l3, l4⟩ := HD.out.lt
          obtain ⟨gm, rfl, hcm, hg1, hg2⟩ := HD.out.own.form2 (by omega)
          go_upto_region 9 with fail
          have hu0 := uids_at HD.out.own
          have x1 : ∀ z : Int, ∀ u ∈ [Value.int .i64 z], u.oneCell' = true := fun z u hu => by simp at hu; subst hu; rfl
          have x2 : k + 1 ≤ maxLen := by unfold maxLen; omega
          have x3 : (k + 1) * 8 ≤ 140737488355328 := by omega
          have X1 := Lib.hid x1; have X2 := Lib.hid x2; have X3 := Lib.hid x3
          clear x1 x2 x3
          go_region_held3 (fun W => W.cell? ⟨w2.heap.size, 1, none⟩ = some (.slice (some ⟨gm, 0, none⟩) b.mail.length cap2) ∧ ∀ i, i < b.mail.length → W.cell? ⟨gm, i * 3, none⟩ = some (.int .i64 (uidAt b i))) (first | exact ⟨c1, hu0⟩ | (refine ⟨?_, ?_⟩; go_keep; intro i hi; have hz := hu0 i hi; clear hu0; go_keep; done) | (go_keep; done))
            (first
            | (go_at_call 54; refine (pick_any r (101 + 2 * j + 1) (b.mail.length : Int) ?_ ?_ ?_ _ ?_).mono ?_; omega; omega; omega; exact DU.rd (DU.below HD.out (by go_grown)); rintro e w6 ⟨y, rfl, hy, hR, gR⟩; have hM := DU.call (HD.out.below (by go_grown)) hR gR; obtain ⟨c0, c1, f0, f1⟩ := two_cells hM.box; have hu0 := uids_at hM.own; have hy2 := Int.ofNat_lt.1 hy; have l6 := lt_of_block hM.box; have HM := Lib.hid hM; clear hR gR hM)
            | ((refine step_append_any (by rfl) _ _ _ (by rfl) w1.heap.size 3 j0 (.int .i64 0) 1 8 Try.underlying45 hj hy0 hy1 hy2' rfl (by decide) g cp k (us.map (Value.int .i64)) (by rfl) ((HM.out.below (by go_grown)).ints) (some ⟨w6.heap.size, 0, none⟩) 1 1 [.int .i64 (uidAt b y)] (by rfl) rfl (.inr ⟨_, rfl, by first | exact cell_one_new _ _ _⟩) (X1.out _) X2.out X3.out (Nat.le_trans HM.out.lt.2.2 (by go_size)) ?_; intro g7 cp7 w7 hown7 hgrow; have hP := DU.push (us' := us ++ [uidAt b y]) (HM.out.below (by go_grown)) hgrow (by rw [List.map_append]; exact hown7); obtain ⟨c0, c1, f0, f1⟩ := two_cells hP.box; have hu0 := uids_at hP.own; have HP := Lib.hid hP; clear hP hown7 hgrow)))
          all_goals
            go_wp2_with fail
            go_roundg (gk - 1)
            case measure => omega
            case rel => exact ⟨j + 1, k + 1, cp7, g7, _, by omega, by omega, rfl, by go_num, HP.out.more (by omega)⟩
        · go_wp2_with fail
          refine (pick_any r (101 + 2 * j + 1) 20 (by omega) (by omega) (by omega) _ HD.out.rd).mono ?_
          rintro e wa ⟨x, rfl, hx, hR, gR⟩
          replace HD := Lib.hid (HD.out.call hR gR)
          obtain ⟨l2, l3, l4⟩ := HD.out.lt
          have hown : (wa.alloc (.cells #[.int .i64 ((x : Int) - 1)] 3)).ownsRow w1.heap.size 3 1 (.slice (some ⟨g, 0, none⟩) k cp) k (us.map (Value.int .i64)) := HD.out.ints.alloc _
          have HO := Lib.hid hown
          clear hown hR gR
          go_wp2_with (at_builtin; refine wpList_append_lies _ rfl _ _ _ rfl w1.heap.size 3 j0 (.int .i64 0) 1 8 Try.underlying45 hj hy0 hy1 hy2' rfl (by omega) _ k _ rfl HO.out ⟨wa.heap.size, 0, none⟩ 1 1 [.int .i64 ((x : Int) - 1)] rfl rfl (cell_one_new _ _ _) (by simp [Value.oneCell']) (by omega) (by unfold maxLen; omega) (by omega) (by simp; omega) (wa.heap.size + 1) (by simp) ?_)
          intro g2 cp2 w5 hown5 hgrow hat hlt5
          have hD := (HD.out.below ((Below.refl _ _).alloc (Nat.le_refl _) (.cells #[.int .i64 ((x : Int) - 1)] 3))).push (us' := us ++ [(x : Int) - 1]) hgrow (by rw [List.map_append]; exact hown5)
          replace HD := Lib.hid (hD.more (K' := 101 + 2 * (j + 1)) (by omega))
          clear hD hown5 hgrow hat HO l2 l3 l4
          go_wp2_with fail
          go_roundg (gk - 1)
          case measure => omega
          case rel => exact ⟨j + 1, k + 1, cp2, g2, _, by omega, by omega, rfl, by go_num, HD.out⟩
      · go_wp2_with fail
        replace HD := Lib.hid (HD.out.more (K' := 101 + 2 * j + 1) (by omega))
        clear c0 c1 f0 f1 l2 l3 l4
        refine (pick_any r (101 + 2 * j + 1) 20 (by omega) (by omega) (by omega) _ HD.out.rd).mono ?_
        rintro e wa ⟨x, rfl, hx, hR, gR⟩
        replace HD := Lib.hid (HD.out.call hR gR)
        obtain ⟨l2, l3, l4⟩ := HD.out.lt
        have hown : (wa.alloc (.cells #[.int .i64 ((x : Int) - 1)] 3)).ownsRow w1.heap.size 3 1 (.slice (some ⟨g, 0, none⟩) k cp) k (us.map (Value.int .i64)) := HD.out.ints.alloc _
        have HO := Lib.hid hown
        clear hown hR gR
        go_wp2_with (at_builtin; refine wpList_append_lies _ rfl _ _ _ rfl w1.heap.size 3 j0 (.int .i64 0) 1 8 Try.underlying45 hj hy0 hy1 hy2' rfl (by omega) _ k _ rfl HO.out ⟨wa.heap.size, 0, none⟩ 1 1 [.int .i64 ((x : Int) - 1)] rfl rfl (cell_one_new _ _ _) (by simp [Value.oneCell']) (by omega) (by unfold maxLen; omega) (by omega) (by simp; omega) (wa.heap.size + 1) (by simp) ?_)
        intro g2 cp2 w5 hown5 hgrow hat hlt5
        have hD := (HD.out.below ((Below.refl _ _).alloc (Nat.le_refl _) (.cells #[.int .i64 ((x : Int) - 1)] 3))).push (us' := us ++ [(x : Int) - 1]) hgrow (by rw [List.map_append]; exact hown5)
        replace HD := Lib.hid (hD.more (K' := 101 + 2 * (j + 1)) (by omega))
        clear hD hown5 hgrow hat HO l2 l3 l4
        go_wp2_with fail
        go_roundg (gk - 1)
        case measure => omega
        case rel => exact ⟨j + 1, k + 1, cp2, g2, _, by omega, by omega, rfl, by go_num, HD.out⟩
    · obtain rfl : j = N := by omega
      obtain ⟨d0, d1, e0, e1⟩ := two_cells HD.out.zero
      have n1 := ne_two (show w.heap.size < w2.heap.size by have := HD.out.h1; have := HD.out.h2; have := HD.out.h3; omega)
      go_wp2_with fail
      refine bodyPost_ret (v := .tuple #[.agg #[.int .i64 b.next, .slice a2 b.mail.length cap2], .slice (some ⟨g, 0, none⟩) k cp]) (by simp [results, Try.results29, go_sem, *]) rfl ⟨b, _, _, g, k, cp, us, rfl, ?_, ?_, ?_⟩
      · exact ⟨hbd, ((HD.out.own.setLow (by have := HD.out.h1; have := HD.out.h2; show w.heap.size < _; omega) _).setLow (by have := HD.out.h1; have := HD.out.h2; show w.heap.size < _; omega) _).more (by have := HD.out.h1; have := HD.out.h2; omega)⟩
      · have hi := HD.out.ints
        have h1 := HD.out.h1
        have h2 := HD.out.h2
        have hi2 := ownsRow_setCell_below (ownsRow_setCell_below hi (a := ⟨w.heap.size, 0, none⟩) (by show w.heap.size < _; omega) (.int .i64 b.next)) (a := ⟨w.heap.size, 1, none⟩) (by show w.heap.size < _; omega) (.slice a2 b.mail.length cap2)
        obtain ⟨m1, m2⟩ := OwnInts.mk hi2
        exact ⟨m1.more (by omega), m2, by omega⟩
      · exact (HD.out.bel.setCell (by show w.heap.size ≤ w.heap.size; omega) _).setCell (by show w.heap.size ≤ w.heap.size; omega) _
end Go.Proofs.Ytdnogbneajloeaa

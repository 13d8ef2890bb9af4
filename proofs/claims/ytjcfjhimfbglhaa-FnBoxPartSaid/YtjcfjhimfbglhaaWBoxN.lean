/- WALK: a mailbox may lose a message; a message twice makes it invalid. -/
import Derived.Test.YtjcfjhimfbglhaaBlk
import Derived.Test.YtjcfjhimfbglhaaDraws
import Derived.Test.YtjcfjhimfbglhaaBoxLaws
import Derived.IntWalk
import Derived.Deep.DrawnRows
import Derived.Deep.DeepCutAuto
namespace Go.Proofs.Ytjcfjhimfbglhaa
open Go.RowKit
set_option linter.unusedVariables false
attribute [local go_sem ↓] Go.wp_at_zero Go.wp_at_succ

theorem bok_part {b : B} (h : bok b = true) (k : Nat) : bok ⟨b.next, b.mail.take k ++ b.mail.drop (k + 1)⟩ = true := by
  rw [← List.eraseIdx_eq_take_drop_succ]
  exact bok_sub h (List.eraseIdx_sublist _ _)
theorem bok_twin {n : Int} {l : List M} {k : Nat} (h : k < l.length) : bok ⟨n, l.take (k + 1) ++ l.drop k⟩ = false := by
  rw [take_one h, List.drop_eq_getElem_cons h]
  exact bok_dup
set_option maxRecDepth 100000 in
set_option maxHeartbeats 4000000 in
theorem fnBoxPart.walk (a : Option Addr) (len cap : Nat) (hl : len ≤ cap) (hm : cap ≤ maxLen) (a1 : Option Addr) (len1 cap1 : Nat) (hl1 : len1 ≤ cap1) (hm1 : cap1 ≤ maxLen) (w : World) (hc : CodeAt w a len) (hc1 : CodeAt w a1 len1) :
    Calls Try.prog 5 #[.slice a len cap, .slice a1 len1 cap1] w fun e w' => e = .returned (.bool true) ∧ Below w.heap.size w w' := by
  unfold maxLen at hm hm1
  obtain ⟨i0, hi, hz0, hz1, hz2⟩ := info_parts Try.infoMail
  clear hc1
  by_cases h1 : 1048576 < len
  · go_enter Try.func5, Try.ntmps5
    go_wp2_with fail
    all_goals go_ret
    all_goals exact ⟨rfl, Below.refl _ _⟩
  by_cases h2 : 1048576 < len1
  · go_enter Try.func5, Try.ntmps5
    go_wp2_with fail
    go_ret
    exact ⟨rfl, Below.refl _ _⟩
  go_enter Try.func5, Try.ntmps5
  go_wp2_with fail
  refine (DrawBoxValid_any a len cap hl w hc).mono ?_
  clear hc
  rintro e w1 ⟨b, a2, cap2, rfl, hb, b1⟩
  have hl10 := hb.1.2.2
  obtain ⟨wx, hwx, X, qx, sx⟩ := new_box hb.2 (by omega)
  have bel := b1.trans (qx.mono b1.size)
  have s1 := b1.size
  have HW := Lib.hid hwx
  clear hwx hb b1 qx
  obtain ⟨c0, c1, f0, f1⟩ := X.cells
  go_wp2_with fail
  rw [← HW.out]
  refine (implBoxValid_any b _ _ X.box).mono ?_
  rintro e w2 ⟨rfl, q2⟩
  replace X := X.below q2
  replace bel := bel.trans (q2.mono bel.size)
  clear c0 c1 f0 f1 HW q2 sx
  obtain ⟨c0, c1, f0, f1⟩ := X.cells
  go_wp2_with fail
  refine (specBoxValid_any b _ _ X.box).mono ?_
  rintro e w4 ⟨rfl, q4⟩
  replace X := X.below q4
  replace bel := bel.trans (q4.mono bel.size)
  clear c0 c1 f0 f1 q4
  obtain ⟨c0, c1, f0, f1⟩ := X.cells
  have hxl := X.lt
  rcases hbk : bok b with _ | _
  · clear X
    go_wp2_with fail
    go_ret
    exact ⟨rfl, bel⟩
  by_cases h0 : b.mail.length = 0
  · rw [h0] at c1
    clear X
    go_wp2_with fail
    go_ret
    exact ⟨rfl, bel⟩
  have hk : len1 % b.mail.length < b.mail.length := Nat.mod_lt len1 (by omega)
  have et : (len1 : Int).tmod (b.mail.length : Int) = ((len1 % b.mail.length : Nat) : Int) := by rw [Int.tmod_eq_emod_of_nonneg (Int.natCast_nonneg _)]; simp
  have et3 : (len1 : Int) % (b.mail.length : Int) = ((len1 % b.mail.length : Nat) : Int) := by simp
  obtain ⟨k, hkk⟩ : ∃ k, len1 % b.mail.length = k := ⟨_, rfl⟩
  rw [hkk] at hk et et3
  obtain ⟨K, hK⟩ : ∃ K : Nat, K = k + 1 := ⟨_, rfl⟩
  have hb0 : ((b.mail.length : Int) == 0) = false := beq_eq_false_iff_ne.2 (by omega)
  have HP := Lib.hid (bok_part hbk k)
  have HT := Lib.hid (bok_twin (n := b.next) hk)
  rw [← hK] at HP HT
  obtain ⟨g, ha2, hLc, _, _⟩ := X.own.form2 (by omega)
  subst ha2
  have hkI : (k : Int) ≤ (b.mail.length : Int) := by omega
  have hkI2 : (k : Int) < (b.mail.length : Int) := by omega
  have hk0 : (0 : Int) ≤ (k : Int) := Int.natCast_nonneg _
  have hKI : (K : Int) ≤ (b.mail.length : Int) := by omega
  have hK0 : (0 : Int) ≤ (K : Int) := Int.natCast_nonneg _
  have hkc : (k : Int) ≤ (cap2 : Int) := by omega
  have hKc : (K : Int) ≤ (cap2 : Int) := by omega
  have hLc2 : (b.mail.length : Int) ≤ (cap2 : Int) := by omega
  have hkne : ¬ cap2 = k := by omega
  have x1 : IntKind.i64.wrap ((k : Int) + 1) = (K : Int) := by rw [show (k : Int) + 1 = (K : Int) from by omega]; exact IntWalk.i64_in (K : Int) (by omega)
  have hln1 : (b.mail.take k ++ b.mail.drop K).length = k + (b.mail.length - K) := by rw [List.length_append, List.length_take, List.length_drop]; omega
  have hln2 : (b.mail.take K ++ b.mail.drop k).length = K + (b.mail.length - k) := by rw [List.length_append, List.length_take, List.length_drop]; omega
  have r1 : (rowOf (b.mail.take k)).length = k * 3 := by rw [rowOf_length, List.length_take]; omega
  have r2 : (rowOf (b.mail.drop K)).length = (b.mail.length - K) * 3 := by rw [rowOf_length, List.length_drop]
  have r3 : (rowOf (b.mail.take K)).length = K * 3 := by rw [rowOf_length, List.length_take]; omega
  have r4 : (rowOf (b.mail.drop k)).length = (b.mail.length - k) * 3 := by rw [rowOf_length, List.length_drop]
  have R1 := Lib.hid r1; have R2 := Lib.hid r2; have R3 := Lib.hid r3; have R4 := Lib.hid r4
  have L1 := Lib.hid hln1; have L2 := Lib.hid hln2
  have hM := X.mail
  have T1 : Hid (∀ W : World, Below w4.heap.size w4 W → Src W (some ⟨g, 0, none⟩) k cap2 (rowOf (b.mail.take k))) := fun W hW => ((MailAt.take hM (Nat.le_of_lt hk)).below hW).src
  have T2 : Hid (∀ W : World, Below w4.heap.size w4 W → Src W (some ⟨g, 0, none⟩) K cap2 (rowOf (b.mail.take K))) := fun W hW => ((MailAt.take hM (by omega)).below hW).src
  have D1 : Hid (∀ W : World, Below w4.heap.size w4 W → Src W (some ⟨g, K * 3, none⟩) (b.mail.length - K) (cap2 - K) (rowOf (b.mail.drop K))) := fun W hW => ((MailAt.drop hM (by omega)).below hW).src
  have D2 : Hid (∀ W : World, Below w4.heap.size w4 W → Src W (some ⟨g, k * 3, none⟩) (b.mail.length - k) (cap2 - k) (rowOf (b.mail.drop k))) := fun W hW => ((MailAt.drop hM (by omega)).below hW).src
  have mv := ne_both hxl
  have mv1 := ne_both (Nat.lt_add_right 1 hxl)
  have HX := Lib.hid X
  have hKk : k + 1 = K := hK.symm
  have HKK := Lib.hid hKk
  have hKL : K ≤ b.mail.length := by omega
  have HBK := Lib.hid hbk
  clear X hM hln1 hln2 r1 r2 r3 r4 hkk hK hKk hbk h0
  go_upto_region 9 with fail
  clear et et3 hb0
  go_cut [9] (fun q wk => ∃ (p gB cB : Nat), q = .pointer (some ⟨p, 0, none⟩) ∧ Hid (BoxCell wk p w4.heap.size ⟨b.next, b.mail.take k ++ b.mail.drop K⟩ (some ⟨gB, 0, none⟩) cB) ∧ Hid (Below w4.heap.size w4 wk))
  case first =>
    have HN1 := R1; have HS1 := T1
    by_cases hcK : cap2 = K
    · have hLK : b.mail.length = K := by omega
      have HN2 : Hid ((rowOf []).length = 0 * 3) := rfl
      have HS2 : Hid (∀ W : World, Below w4.heap.size w4 W → Src W (some ⟨g, 0, none⟩) 0 0 (rowOf [])) := fun W hW => .inr ⟨_, rfl, fun j u hu => by simp [rowOf] at hu⟩
      have hnil : b.mail.drop K = [] := List.drop_eq_nil_of_le (by omega)
      have HNIL := Lib.hid hnil
      have hll : (b.mail.take k ++ []).length = k := by have := L1.out; rw [hnil] at this; omega
      have HLL := Lib.hid hll
      subst hcK
      rw [hLK] at c1
      have HLK := Lib.hid hLK
      have hle : (cap2 : Int) ≤ (cap2 : Int) := Int.le_refl _
      have hk10 : k ≤ 10 := by omega
      have hk3 : (k : Int) ≤ (cap2 : Int) := by omega
      clear hnil hll hLK hkI hkI2 hKI hKc hLc2 hkc L1 R2 D1 T2 D2 R3 R4 L2
      go_region_held3 (fun W => W.cell? ⟨w1.heap.size, 0, none⟩ = some (.int .i64 b.next) ∧ W.cell? ⟨w1.heap.size, 1, none⟩ = some (.slice (some ⟨g, 0, none⟩) cap2 cap2)) (first | exact ⟨c0, c1⟩ | (go_keep; done))
        (first
        | ((fail_if_success (have hx := HA)); (fail_if_success (have hx := HB)); refine step_append_any (by rfl) _ _ _ (by rfl) w4.heap.size 60 i0 (.agg #[.int .i64 0, .int .i64 0, .string ⟨#[]⟩]) 3 32 Try.underlying27 hi hz0 hz1 hz2 rfl (by decide) _ _ 0 [] (by rfl) (own_empty (by ((repeat' (first | (with_reducible assumption) | (with_reducible refine blk_at ?_; first | rfl | (simp; done)) | (with_reducible refine blk_drew ?_) | (with_reducible refine blk_alloc ?_))); done)) (by first | exact Nat.le_refl _ | (simp; done) | (simp; omega))) _ _ _ (rowOf (b.mail.take k)) (by rfl) HN1.out (HS1.out _ (by go_grown)) (rowOf_one _) (by unfold maxLen; omega) (by omega) (by first | exact Nat.le_refl _ | (simp; done) | (simp; omega)) ?_; intro gA cA w8 hown8 hgrow; simp only [Nat.zero_add, List.nil_append] at hown8 ⊢; (first | (refine blk_have (T := w8.heap[w4.heap.size]? = some (Obj.cells #[.int .i64 0, .slice none 0 0] 29 (0, 0))) ?_ ?_; refine blk_grow hgrow ?_ ?_; (focus ((repeat' (first | (with_reducible assumption) | (with_reducible refine blk_at ?_; first | rfl | (simp; done)) | (with_reducible refine blk_drew ?_) | (with_reducible refine blk_alloc ?_))); done)); (first | (simp; done) | omega); intro z8) | (refine blk_have (T := w8.heap[(w4.heap.size + 1)]? = some (Obj.cells #[.int .i64 0, .slice none 0 0] 29 (0, 0))) ?_ ?_; refine blk_grow hgrow ?_ ?_; (focus ((repeat' (first | (with_reducible assumption) | (with_reducible refine blk_at ?_; first | rfl | (simp; done)) | (with_reducible refine blk_drew ?_) | (with_reducible refine blk_alloc ?_))); done)); (first | (simp; done) | omega); intro z8) | skip); have b8 : Below w4.heap.size w4 w8 := Below.grown (by go_grown) hgrow (by first | exact Nat.le_refl _ | (simp; done) | (simp; omega)) (fun k hk => by cases hk; first | exact Nat.le_refl _ | (simp; done) | (simp; omega)); obtain ⟨c0, c1, f0, f1⟩ := (HX.out.below b8).cells; rw [HLK.out] at c1;  have lt8 := (HX.out.below b8).lt; obtain ⟨l8, l9⟩ := own_lt hown8; (first | have ne8 := blk_ne hown8 z8 (by decide) | skip); have HA := Lib.hid hown8; have s8 := b8.size; have m8 := ne_both lt8; have B8 := Lib.hid b8; clear hown8 hgrow b8)
        | (have hx := HA; refine step_append_any (by rfl) _ _ _ (by rfl) w4.heap.size 60 i0 (.agg #[.int .i64 0, .int .i64 0, .string ⟨#[]⟩]) 3 32 Try.underlying27 hi hz0 hz1 hz2 rfl (by decide) gA cA _ _ (by rfl) (by first | exact HA.out | exact HA.out.alloc _ | exact HA.out.drew | exact (HA.out.alloc _).drew | exact HA.out.drew.alloc _ ) _ _ _ (rowOf ([])) (by rfl) HN2.out (HS2.out _ (Below.trans B8.out (by go_grown))) (rowOf_one _) (by unfold maxLen; omega) (by omega) (Nat.le_trans s8 (by first | exact Nat.le_refl _ | (simp; done) | (simp; omega))) ?_; intro gB cB w9 hown9 hgrow; (first | have z9 := blk_grow hgrow z8 ne8 | (refine blk_have (T := w9.heap[w8.heap.size]? = some (Obj.cells #[.int .i64 0, .slice none 0 0] 29 (0, 0))) ?_ ?_; refine blk_grow hgrow ?_ ?_; (focus ((repeat' (first | (with_reducible assumption) | (with_reducible refine blk_at ?_; first | rfl | (simp; done)) | (with_reducible refine blk_drew ?_) | (with_reducible refine blk_alloc ?_))); done)); (first | (simp; done) | omega); intro z9) | skip); have b9 : Below w4.heap.size w4 w9 := Below.grown (Below.trans B8.out (by go_grown)) hgrow (Nat.le_trans s8 (by first | exact Nat.le_refl _ | (simp; done) | (simp; omega))) (fun k hk => by cases hk; exact l8); obtain ⟨c0, c1, f0, f1⟩ := (HX.out.below b9).cells; rw [HLK.out] at c1;  have lt9 := (HX.out.below b9).lt; have HB := Lib.hid (own_cat hown9 HLL.out); have s9 := b9.size; have m9 := ne_both lt9; have B9 := Lib.hid b9; (first | (obtain ⟨d0, d1, e0, e1⟩ := two_cells z9; have lz := lt_of_block z9; have Z9 := Lib.hid z9) | skip); (first | clear z9 | skip); (first | clear z8 | skip); clear hx hown9 hgrow b9 HA))
      all_goals
        go_wp2_with fail
        go_meet
        first
          | exact ⟨_, gB, cB, rfl, by (have h := box_alloc (b := ⟨b.next, b.mail.take k ++ []⟩) (a := some ⟨gB, 0, none⟩) (cap := cB) (by rw [HLL.out]; exact HB.out) (by dsimp only; rw [HLL.out]; omega); simp only [HLL.out] at h; rw [HNIL.out]; exact h), B9.out.alloc B9.out.size _⟩
          | exact ⟨_, gB, cB, rfl, by (have h := box_store (b := ⟨b.next, b.mail.take k ++ []⟩) (a := some ⟨gB, 0, none⟩) (cap := cB) Z9.out (by rw [HLL.out]; exact HB.out) (by dsimp only; rw [HLL.out]; omega); simp only [HLL.out] at h; rw [HNIL.out]; exact h), (B9.out.setCell (by first | assumption | exact Nat.le_refl _ | (dsimp only; omega)) _).setCell (by first | assumption | exact Nat.le_refl _ | (dsimp only; omega)) _⟩
    · have HN2 := R2; have HS2 := D1; have HLL := L1
      go_region_held3 (fun W => W.cell? ⟨w1.heap.size, 0, none⟩ = some (.int .i64 b.next) ∧ W.cell? ⟨w1.heap.size, 1, none⟩ = some (.slice (some ⟨g, 0, none⟩) b.mail.length cap2)) (first | exact ⟨c0, c1⟩ | (go_keep; done))
        (first
        | ((fail_if_success (have hx := HA)); (fail_if_success (have hx := HB)); refine step_append_any (by rfl) _ _ _ (by rfl) w4.heap.size 60 i0 (.agg #[.int .i64 0, .int .i64 0, .string ⟨#[]⟩]) 3 32 Try.underlying27 hi hz0 hz1 hz2 rfl (by decide) _ _ 0 [] (by rfl) (own_empty (by ((repeat' (first | (with_reducible assumption) | (with_reducible refine blk_at ?_; first | rfl | (simp; done)) | (with_reducible refine blk_drew ?_) | (with_reducible refine blk_alloc ?_))); done)) (by first | exact Nat.le_refl _ | (simp; done) | (simp; omega))) _ _ _ (rowOf (b.mail.take k)) (by rfl) HN1.out (HS1.out _ (by go_grown)) (rowOf_one _) (by unfold maxLen; omega) (by omega) (by first | exact Nat.le_refl _ | (simp; done) | (simp; omega)) ?_; intro gA cA w8 hown8 hgrow; simp only [Nat.zero_add, List.nil_append] at hown8 ⊢; (first | (refine blk_have (T := w8.heap[w4.heap.size]? = some (Obj.cells #[.int .i64 0, .slice none 0 0] 29 (0, 0))) ?_ ?_; refine blk_grow hgrow ?_ ?_; (focus ((repeat' (first | (with_reducible assumption) | (with_reducible refine blk_at ?_; first | rfl | (simp; done)) | (with_reducible refine blk_drew ?_) | (with_reducible refine blk_alloc ?_))); done)); (first | (simp; done) | omega); intro z8) | (refine blk_have (T := w8.heap[(w4.heap.size + 1)]? = some (Obj.cells #[.int .i64 0, .slice none 0 0] 29 (0, 0))) ?_ ?_; refine blk_grow hgrow ?_ ?_; (focus ((repeat' (first | (with_reducible assumption) | (with_reducible refine blk_at ?_; first | rfl | (simp; done)) | (with_reducible refine blk_drew ?_) | (with_reducible refine blk_alloc ?_))); done)); (first | (simp; done) | omega); intro z8) | skip); have b8 : Below w4.heap.size w4 w8 := Below.grown (by go_grown) hgrow (by first | exact Nat.le_refl _ | (simp; done) | (simp; omega)) (fun k hk => by cases hk; first | exact Nat.le_refl _ | (simp; done) | (simp; omega)); obtain ⟨c0, c1, f0, f1⟩ := (HX.out.below b8).cells;  have lt8 := (HX.out.below b8).lt; obtain ⟨l8, l9⟩ := own_lt hown8; (first | have ne8 := blk_ne hown8 z8 (by decide) | skip); have HA := Lib.hid hown8; have s8 := b8.size; have m8 := ne_both lt8; have B8 := Lib.hid b8; clear hown8 hgrow b8)
        | (have hx := HA; refine step_append_any (by rfl) _ _ _ (by rfl) w4.heap.size 60 i0 (.agg #[.int .i64 0, .int .i64 0, .string ⟨#[]⟩]) 3 32 Try.underlying27 hi hz0 hz1 hz2 rfl (by decide) gA cA _ _ (by rfl) (by first | exact HA.out | exact HA.out.alloc _ | exact HA.out.drew | exact (HA.out.alloc _).drew | exact HA.out.drew.alloc _ ) _ _ _ (rowOf (b.mail.drop K)) (by rfl) HN2.out (HS2.out _ (Below.trans B8.out (by go_grown))) (rowOf_one _) (by unfold maxLen; omega) (by omega) (Nat.le_trans s8 (by first | exact Nat.le_refl _ | (simp; done) | (simp; omega))) ?_; intro gB cB w9 hown9 hgrow; (first | have z9 := blk_grow hgrow z8 ne8 | (refine blk_have (T := w9.heap[w8.heap.size]? = some (Obj.cells #[.int .i64 0, .slice none 0 0] 29 (0, 0))) ?_ ?_; refine blk_grow hgrow ?_ ?_; (focus ((repeat' (first | (with_reducible assumption) | (with_reducible refine blk_at ?_; first | rfl | (simp; done)) | (with_reducible refine blk_drew ?_) | (with_reducible refine blk_alloc ?_))); done)); (first | (simp; done) | omega); intro z9) | skip); have b9 : Below w4.heap.size w4 w9 := Below.grown (Below.trans B8.out (by go_grown)) hgrow (Nat.le_trans s8 (by first | exact Nat.le_refl _ | (simp; done) | (simp; omega))) (fun k hk => by cases hk; exact l8); obtain ⟨c0, c1, f0, f1⟩ := (HX.out.below b9).cells;  have lt9 := (HX.out.below b9).lt; have HB := Lib.hid (own_cat hown9 HLL.out); have s9 := b9.size; have m9 := ne_both lt9; have B9 := Lib.hid b9; (first | (obtain ⟨d0, d1, e0, e1⟩ := two_cells z9; have lz := lt_of_block z9; have Z9 := Lib.hid z9) | skip); (first | clear z9 | skip); (first | clear z8 | skip); clear hx hown9 hgrow b9 HA))
      all_goals
        go_wp2_with fail
        go_meet
        first
          | exact ⟨_, gB, cB, rfl, by (have h := box_alloc (b := ⟨b.next, b.mail.take k ++ b.mail.drop K⟩) (a := some ⟨gB, 0, none⟩) (cap := cB) (by rw [HLL.out]; exact HB.out) (by dsimp only; rw [HLL.out]; omega); simp only [HLL.out] at h; exact h), B9.out.alloc B9.out.size _⟩
          | exact ⟨_, gB, cB, rfl, by (have h := box_store (b := ⟨b.next, b.mail.take k ++ b.mail.drop K⟩) (a := some ⟨gB, 0, none⟩) (cap := cB) Z9.out (by rw [HLL.out]; exact HB.out) (by dsimp only; rw [HLL.out]; omega); simp only [HLL.out] at h; exact h), (B9.out.setCell (by first | assumption | exact Nat.le_refl _ | (dsimp only; omega)) _).setCell (by first | assumption | exact Nat.le_refl _ | (dsimp only; omega)) _⟩
  obtain ⟨p, g2, cB, rfl, HY, HQ⟩ := hcut
  have X := HX.out.below HQ.out
  replace bel := bel.trans (HQ.out.mono bel.size)
  replace T2 : Hid (∀ W : World, Below wc.heap.size wc W → Src W (some ⟨g, 0, none⟩) K cap2 (rowOf (b.mail.take K))) := fun W hW => T2.out W (HQ.out.trans (hW.mono HQ.out.size))
  replace D2 : Hid (∀ W : World, Below wc.heap.size wc W → Src W (some ⟨g, k * 3, none⟩) (b.mail.length - k) (cap2 - k) (rowOf (b.mail.drop k))) := fun W hW => D2.out W (HQ.out.trans (hW.mono HQ.out.size))
  clear c0 c1 f0 f1 hxl mv mv1 HX T1 D1 HQ L1 R1 R2
  obtain ⟨c0, c1, f0, f1⟩ := X.cells
  have hxl := X.lt
  have mv := ne_both hxl
  have mv1 := ne_both (Nat.lt_add_right 1 hxl)
  have HX := Lib.hid X
  clear X
  go_upto_region 10 with fail
  go_cut [10] (fun q wk => ∃ (p gB cB : Nat), q = .pointer (some ⟨p, 0, none⟩) ∧ Hid (BoxCell wk p wc.heap.size ⟨b.next, b.mail.take K ++ b.mail.drop k⟩ (some ⟨gB, 0, none⟩) cB) ∧ Hid (Below wc.heap.size wc wk))
  case first =>
    have HN1 := R3; have HS1 := T2; have HN2 := R4; have HS2 := D2; have HLL := L2
    go_region_held3 (fun W => W.cell? ⟨w1.heap.size, 0, none⟩ = some (.int .i64 b.next) ∧ W.cell? ⟨w1.heap.size, 1, none⟩ = some (.slice (some ⟨g, 0, none⟩) b.mail.length cap2)) (first | exact ⟨c0, c1⟩ | (go_keep; done))
      (first
      | ((fail_if_success (have hx := HA)); (fail_if_success (have hx := HB)); refine step_append_any (by rfl) _ _ _ (by rfl) wc.heap.size 60 i0 (.agg #[.int .i64 0, .int .i64 0, .string ⟨#[]⟩]) 3 32 Try.underlying27 hi hz0 hz1 hz2 rfl (by decide) _ _ 0 [] (by rfl) (own_empty (by ((repeat' (first | (with_reducible assumption) | (with_reducible refine blk_at ?_; first | rfl | (simp; done)) | (with_reducible refine blk_drew ?_) | (with_reducible refine blk_alloc ?_))); done)) (by first | exact Nat.le_refl _ | (simp; done) | (simp; omega))) _ _ _ (rowOf (b.mail.take K)) (by rfl) HN1.out (HS1.out _ (by go_grown)) (rowOf_one _) (by unfold maxLen; omega) (by omega) (by first | exact Nat.le_refl _ | (simp; done) | (simp; omega)) ?_; intro gA cA w8 hown8 hgrow; simp only [Nat.zero_add, List.nil_append] at hown8 ⊢; (first | (refine blk_have (T := w8.heap[wc.heap.size]? = some (Obj.cells #[.int .i64 0, .slice none 0 0] 29 (0, 0))) ?_ ?_; refine blk_grow hgrow ?_ ?_; (focus ((repeat' (first | (with_reducible assumption) | (with_reducible refine blk_at ?_; first | rfl | (simp; done)) | (with_reducible refine blk_drew ?_) | (with_reducible refine blk_alloc ?_))); done)); (first | (simp; done) | omega); intro z8) | (refine blk_have (T := w8.heap[(wc.heap.size + 1)]? = some (Obj.cells #[.int .i64 0, .slice none 0 0] 29 (0, 0))) ?_ ?_; refine blk_grow hgrow ?_ ?_; (focus ((repeat' (first | (with_reducible assumption) | (with_reducible refine blk_at ?_; first | rfl | (simp; done)) | (with_reducible refine blk_drew ?_) | (with_reducible refine blk_alloc ?_))); done)); (first | (simp; done) | omega); intro z8) | skip); have b8 : Below wc.heap.size wc w8 := Below.grown (by go_grown) hgrow (by first | exact Nat.le_refl _ | (simp; done) | (simp; omega)) (fun k hk => by cases hk; first | exact Nat.le_refl _ | (simp; done) | (simp; omega)); obtain ⟨c0, c1, f0, f1⟩ := (HX.out.below b8).cells;  have lt8 := (HX.out.below b8).lt; obtain ⟨l8, l9⟩ := own_lt hown8; (first | have ne8 := blk_ne hown8 z8 (by decide) | skip); have HA := Lib.hid hown8; have s8 := b8.size; have m8 := ne_both lt8; have B8 := Lib.hid b8; clear hown8 hgrow b8)
      | (have hx := HA; refine step_append_any (by rfl) _ _ _ (by rfl) wc.heap.size 60 i0 (.agg #[.int .i64 0, .int .i64 0, .string ⟨#[]⟩]) 3 32 Try.underlying27 hi hz0 hz1 hz2 rfl (by decide) gA cA _ _ (by rfl) (by first | exact HA.out | exact HA.out.alloc _ | exact HA.out.drew | exact (HA.out.alloc _).drew | exact HA.out.drew.alloc _ ) _ _ _ (rowOf (b.mail.drop k)) (by rfl) HN2.out (HS2.out _ (Below.trans B8.out (by go_grown))) (rowOf_one _) (by unfold maxLen; omega) (by omega) (Nat.le_trans s8 (by first | exact Nat.le_refl _ | (simp; done) | (simp; omega))) ?_; intro gB cB w9 hown9 hgrow; (first | have z9 := blk_grow hgrow z8 ne8 | (refine blk_have (T := w9.heap[w8.heap.size]? = some (Obj.cells #[.int .i64 0, .slice none 0 0] 29 (0, 0))) ?_ ?_; refine blk_grow hgrow ?_ ?_; (focus ((repeat' (first | (with_reducible assumption) | (with_reducible refine blk_at ?_; first | rfl | (simp; done)) | (with_reducible refine blk_drew ?_) | (with_reducible refine blk_alloc ?_))); done)); (first | (simp; done) | omega); intro z9) | skip); have b9 : Below wc.heap.size wc w9 := Below.grown (Below.trans B8.out (by go_grown)) hgrow (Nat.le_trans s8 (by first | exact Nat.le_refl _ | (simp; done) | (simp; omega))) (fun k hk => by cases hk; exact l8); obtain ⟨c0, c1, f0, f1⟩ := (HX.out.below b9).cells;  have lt9 := (HX.out.below b9).lt; have HB := Lib.hid (own_cat hown9 HLL.out); have s9 := b9.size; have m9 := ne_both lt9; have B9 := Lib.hid b9; (first | (obtain ⟨d0, d1, e0, e1⟩ := two_cells z9; have lz := lt_of_block z9; have Z9 := Lib.hid z9) | skip); (first | clear z9 | skip); (first | clear z8 | skip); clear hx hown9 hgrow b9 HA))
    all_goals
      go_wp2_with fail
      go_meet
      first
        | exact ⟨_, gB, cB, rfl, by (have h := box_alloc (b := ⟨b.next, b.mail.take K ++ b.mail.drop k⟩) (a := some ⟨gB, 0, none⟩) (cap := cB) (by rw [HLL.out]; exact HB.out) (by dsimp only; rw [HLL.out]; omega); simp only [HLL.out] at h; exact h), B9.out.alloc B9.out.size _⟩
        | exact ⟨_, gB, cB, rfl, by (have h := box_store (b := ⟨b.next, b.mail.take K ++ b.mail.drop k⟩) (a := some ⟨gB, 0, none⟩) (cap := cB) Z9.out (by rw [HLL.out]; exact HB.out) (by dsimp only; rw [HLL.out]; omega); simp only [HLL.out] at h; exact h), (B9.out.setCell (by first | assumption | exact Nat.le_refl _ | (dsimp only; omega)) _).setCell (by first | assumption | exact Nat.le_refl _ | (dsimp only; omega)) _⟩
  obtain ⟨p2, g3, cB2, rfl, HZ, HQ⟩ := hcut
  replace HY := Lib.hid (HY.out.below HQ.out)
  replace bel := bel.trans (HQ.out.mono bel.size)
  clear c0 c1 f0 f1 hxl mv mv1 HX HQ T2 D2 x1 HKK HBK L2 R3 R4
  obtain ⟨bx, hbx⟩ : ∃ B' : B, B' = ⟨b.next, b.mail.take k ++ b.mail.drop K⟩ := ⟨_, rfl⟩
  obtain ⟨bt, hbt⟩ : ∃ B' : B, B' = ⟨b.next, b.mail.take K ++ b.mail.drop k⟩ := ⟨_, rfl⟩
  rw [← hbx] at HY HP
  rw [← hbt] at HZ HT
  clear hbx hbt
  obtain ⟨d0, d1, e0, e1⟩ := HY.out.cells
  have hy := HY.out.lt
  go_wp2_with fail
  refine (implBoxValid_any bx _ _ HY.out.box).mono ?_
  rintro e w7 ⟨rfl, q7⟩
  rw [HP.out]
  replace bel := bel.trans (q7.mono bel.size)
  replace HZ := Lib.hid (HZ.out.below q7)
  clear d0 d1 e0 e1 hy HY q7
  obtain ⟨d0, d1, e0, e1⟩ := HZ.out.cells
  go_wp2_with fail
  refine (implBoxValid_any bt _ _ HZ.out.box).mono ?_
  rintro e w8 ⟨rfl, q8⟩
  rw [HT.out]
  replace bel := bel.trans (q8.mono bel.size)
  clear d0 d1 e0 e1 HZ q8
  go_wp2_with fail
  go_ret
  exact ⟨rfl, bel⟩
end Go.Proofs.Ytjcfjhimfbglhaa

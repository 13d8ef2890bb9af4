/- WALKS: the program copies a mailbox, and appends a message. -/
import Derived.Test.YtpahgjideppmoaaLink
import Derived.Test.YtpahgjideppmoaaBox
import Derived.Test.YtpahgjideppmoaaApp
import Derived.IntWalk
namespace Go.Proofs.Ytpahgjideppmoaa
open Go.RowKit
set_option linter.unusedVariables false

theorem MailAt.src {w : World} {a : Option Addr} {n c : Nat} {l : List M} (h : MailAt w (.slice a n c) l) : Src w a n c (rowOf l) := by
  obtain ⟨a', n', c', he, hn, hc, ⟨_, hnil⟩, h⟩ := h
  cases he
  rcases ha : a with _ | ad
  · have := hnil ha
    exact .inl ⟨rfl, by omega, this⟩
  · refine .inr ⟨ad, rfl, ?_⟩
    rcases h with h | ⟨b, off, he, hlt, h⟩
    · have : l = [] := List.eq_nil_of_length_eq_zero (by omega)
      rw [this]; intro j u hu; simp [rowOf] at hu
    · rw [ha] at he; cases he; exact news_of h
theorem cells_of_grown {w w' : World} {r k : Nat} {o : Obj} (h : w.heap[k]? = some o) (hg : w.grownBy w' (some r)) (hk : k ≠ r) : w'.heap[k]? = some o :=
  (hg.block k (lt_of_block h) (by simp; omega)).trans h

set_option maxHeartbeats 400000 in
theorem boxClone_any (b : B) (v : Value) (w : World) (hb : BoxAt w v b) :
    Calls Try.prog 24 #[v] w fun e w' => ∃ (g cap : Nat), e = .returned (.agg #[.int .i64 b.next, .slice (some ⟨g, 0, none⟩) b.mail.length cap]) ∧ Own w' w.heap.size (.slice (some ⟨g, 0, none⟩) b.mail.length cap) b.mail ∧ Below w.heap.size w w' := by
  obtain ⟨s, rfl, hm⟩ := hb
  have hm' := hm
  obtain ⟨a, L, cap, rfl, hL, hcap, ⟨hmax, hnil⟩, hmail⟩ := hm'
  obtain ⟨i0, hi, hz0, hz1, hz2⟩ := info_parts Try.infoMail
  subst hL
  have HM := Lib.hid hm.src
  obtain ⟨w1, hw1⟩ : ∃ w1, w1 = (w.alloc (.cells #[.int .i64 b.next, .slice a b.mail.length cap] 29)).alloc (.cells #[.int .i64 0, .slice none 0 0] 29) := ⟨_, rfl⟩
  have bel1 : Below w.heap.size w w1 := by rw [hw1]; go_grown
  have h0 : w1.heap[w.heap.size]? = some (.cells #[.int .i64 b.next, .slice a b.mail.length cap] 29 (0, 0)) := by
    rw [hw1, Below.heap_alloc _ _ _ (by simp)]; exact heap_alloc_new w _
  have h1 : w1.heap[w.heap.size + 1]? = some (.cells #[.int .i64 0, .slice none 0 0] 29 (0, 0)) := by
    rw [hw1]; have := heap_alloc_new (w.alloc (.cells #[.int .i64 b.next, .slice a b.mail.length cap] 29)) (.cells #[.int .i64 0, .slice none 0 0] 29); simpa using this
  have hsz : w.heap.size + 2 ≤ w1.heap.size := by rw [hw1]; simp
  have HW := Lib.hid hw1
  clear hw1 hm hmail hnil
  obtain ⟨c0, c1, f0, f1⟩ := two_cells h0
  obtain ⟨c2, c3, f2, f3⟩ := two_cells h1
  have n1 := ne_two (show w.heap.size < w1.heap.size by omega)
  have n2 := ne_two (show w.heap.size + 1 < w1.heap.size by omega)
  have H0 := Lib.hid h0; have H1 := Lib.hid h1
  clear h0 h1
  go_enter Try.func24, Try.ntmps24
  go_wp2_with fail
  rw [← HW.out]
  go_region_held3 (fun W => W.cell? ⟨w.heap.size, 0, none⟩ = some (.int .i64 b.next) ∧ W.cell? ⟨w.heap.size, 1, none⟩ = some (.slice a b.mail.length cap)) (first | exact ⟨c0, c1⟩ | (go_keep; done))
    ((refine step_append_any (by rfl) _ _ _ (by rfl) (w.heap.size + 2) 47 i0 (.agg #[.int .i64 0, .int .i64 0, .string ⟨#[]⟩]) 3 32 Try.underlying27 hi hz0 hz1 hz2 rfl (by decide) w1.heap.size 0 0 [] (by rfl) (by first | exact own_new _ _ _ _ hsz | exact (own_new _ _ _ _ hsz).drew | exact World.ownsRow.drew (own_new _ _ _ _ hsz)) a b.mail.length cap (rowOf b.mail) (by rfl) (rowOf_length _) (HM.out.below (by first | go_grown | exact Below.trans bel1 (by go_grown))) (rowOf_one _) (by unfold maxLen; omega) (by omega) (by first | (simp; omega) | (show _ ≤ (w1.alloc _).heap.size; simp; omega)) ?_; intro g cap2 w4 hown4 hgrow;
      have k0 := (hgrow.block w.heap.size (by show _ < (w1.alloc _).heap.size; simp; omega) (by simp; omega)).trans ((Below.heap_alloc w1 _ _ (by omega)).trans H0.out);
      have k1 := (hgrow.block (w.heap.size + 1) (by show _ < (w1.alloc _).heap.size; simp; omega) (by simp; omega)).trans ((Below.heap_alloc w1 _ _ (by omega)).trans H1.out);
      have bel4 : Below w.heap.size w w4 := Below.grown (by first | exact bel1.alloc bel1.size _ | exact (bel1.alloc bel1.size _).drew) hgrow (by show _ ≤ (w1.alloc _).heap.size; simp; omega) (fun k hk => by cases hk; omega);
      obtain ⟨c0, c1, f0, f1⟩ := two_cells k0; obtain ⟨c2, c3, f2, f3⟩ := two_cells k1;
      have HO4 := Lib.hid hown4; have s4 := lt_of_block k1; clear k0 k1 hown4 hgrow))
  go_wp2_with fail
  refine bodyPost_ret (v := .agg #[.int .i64 b.next, .slice (some ⟨g, 0, none⟩) b.mail.length cap2]) (by simp [results, Try.results24, go_sem, *]) rfl ⟨g, cap2, rfl, ?_, ?_⟩
  · have h := HO4.out
    refine Own.more (base := w.heap.size + 2) ?_ (by omega)
    unfold Own
    simp only [Nat.zero_add, List.nil_append] at h
    exact ownsRow_setCell_below (ownsRow_setCell_below h (by simp) _) (by simp) _
  · exact (bel4.setCell (by show w.heap.size ≤ w.heap.size + 1; omega) _).setCell (by show w.heap.size ≤ w.heap.size + 1; omega) _
set_option maxHeartbeats 800000 in
theorem implBoxAppend_any (b : B) (f : Int) (t : ByteArray) (v : Value) (w : World) (hb : BoxAt w v b) :
    Calls Try.prog 25 #[v, .int .i64 f, .string t] w fun e w' => ∃ s, e = .returned (.tuple #[.agg #[.int .i64 (appendTo b f t).1.next, s], .bool (appendTo b f t).2]) ∧ Own w' w.heap.size s (appendTo b f t).1.mail ∧ Below w.heap.size w w' := by
  have hb' := hb
  obtain ⟨s, rfl, a, L, cap, rfl, rfl, hcap, ⟨hmax, hnil⟩, hmail⟩ := hb
  obtain ⟨w1, hw1⟩ : ∃ w1, w1 = (w.alloc (.cells #[.int .i64 b.next, .slice a b.mail.length cap] 29)).alloc (.cells #[.int .i64 0, .slice none 0 0] 29) := ⟨_, rfl⟩
  have bel1 : Below w.heap.size w w1 := by rw [hw1]; go_grown
  have h0 : w1.heap[w.heap.size]? = some (.cells #[.int .i64 b.next, .slice a b.mail.length cap] 29 (0, 0)) := by
    rw [hw1, Below.heap_alloc _ _ _ (by simp)]; exact heap_alloc_new w _
  have h1 : w1.heap[w.heap.size + 1]? = some (.cells #[.int .i64 0, .slice none 0 0] 29 (0, 0)) := by
    rw [hw1]; have := heap_alloc_new (w.alloc (.cells #[.int .i64 b.next, .slice a b.mail.length cap] 29)) (.cells #[.int .i64 0, .slice none 0 0] 29); simpa using this
  have hsz : w.heap.size + 2 ≤ w1.heap.size := by rw [hw1]; simp
  have HW := Lib.hid hw1
  have K := implBoxValid_any b (.agg #[.int .i64 b.next, .slice a b.mail.length cap]) w1 (hb'.below bel1)
  have HK := Lib.hid K
  have HB := Lib.hid hb'
  clear hb' hnil hmail hw1 K
  go_enter Try.func25, Try.ntmps25
  go_wp2_with fail
  rw [← HW.out]
  refine HK.out.mono ?_
  rintro e w2 ⟨rfl, q2⟩
  have g0 := (q2.block _ (by omega)).trans h0
  have g1 := (q2.block _ (by omega)).trans h1
  have bel2 := bel1.trans (q2.mono bel1.size)
  have z0 : w.heap.size < w2.heap.size := by have := q2.size; omega
  have z1 : w.heap.size + 1 < w2.heap.size := by have := q2.size; omega
  clear h0 h1 bel1 q2 HK HW
  obtain ⟨c0, c1, f0, f1⟩ := two_cells g0
  obtain ⟨c2, c3, f2, f3⟩ := two_cells g1
  by_cases hok : bok b = true ∧ fok f = true ∧ t.size ≤ 20
  · obtain ⟨hb, hf, ht⟩ := hok
    have hr := appendTo_yes hb hf ht
    have HR := Lib.hid hr
    obtain ⟨hn0, hn1, hl10⟩ := bok_next hb
    have G0 := Lib.hid g0; have G1 := Lib.hid g1
    clear hr g0 g1
    rw [hb]
    by_cases hn : 10 ≤ b.mail.length ∨ 99 < b.next
    · have hr : addTo b f t = (b, false) := by unfold addTo; rw [if_pos hn]
      have HR2 := Lib.hid hr
      clear hr
      have K := boxClone_any b (.agg #[.int .i64 b.next, .slice a b.mail.length cap]) w2 (HB.out.below bel2)
      have HK := Lib.hid K
      clear K HB
      have hgo : (((b.mail.length : Int) == 10) = true) ∨ ((((b.mail.length : Int) == 10) = false) ∧ 99 < b.next) := by
        by_cases h : b.mail.length = 10
        · left; simp; omega
        · right; exact ⟨beq_eq_false_iff_ne.2 (by omega), by omega⟩
      clear hn
      rcases hgo with hgo | ⟨hgo, hgo2⟩
      all_goals
        go_wp2_with (go_at_call 36; refine (flagsValid_any _ _).mono ?_; rintro e w' ⟨rfl, rfl⟩)
        refine HK.out.mono ?_
        rintro e w3 ⟨g, cap', rfl, ho, q3⟩
        have k1 := (q3.block _ z1).trans G1.out
        have bel3 := bel2.trans (q3.mono bel2.size)
        clear c0 c1 c2 c3 f0 f1 f2 f3
        obtain ⟨c2, c3, f2, f3⟩ := two_cells k1
        have HO := Lib.hid ho
        clear ho k1 q3
        go_wp2_with fail
        refine bodyPost_ret (v := .tuple #[.agg #[.int .i64 b.next, .slice (some ⟨g, 0, none⟩) b.mail.length cap'], .bool false]) (by simp [results, Try.results25, go_sem, *]) rfl ⟨_, by rw [HR.out, HR2.out], ?_, ?_⟩
        · rw [HR.out, HR2.out]
          exact ((HO.out.setLow (by simp; omega) _).setLow (by simp; omega) _).more (by omega)
        · go_grown
    · have hr : addTo b f t = (⟨b.next + 1, b.mail ++ [⟨b.next, f, t⟩]⟩, true) := by unfold addTo; rw [if_neg hn]
      have HR2 := Lib.hid hr
      clear hr
      obtain ⟨s, hs, hm⟩ := HB.out.below bel2
      have hs : Value.slice a b.mail.length cap = s := by simpa using hs
      subst hs
      have K := mailLink_any b.mail _ w2 hm (by omega)
      have HK := Lib.hid K
      have hgo : ((b.mail.length : Int) == 10) = false := beq_eq_false_iff_ne.2 (by omega)
      have hgo2 : ¬ 99 < b.next := by omega
      clear hn K HB hm
      go_wp2_with (go_at_call 36; refine (flagsValid_any _ _).mono ?_; rintro e w' ⟨rfl, rfl⟩)
      refine HK.out.mono ?_
      rintro e w3 ⟨g, ns, rfl, hL, q3⟩
      have k0 := (q3.block _ z0).trans G0.out
      have k1 := (q3.block _ z1).trans G1.out
      have bel3 := bel2.trans (q3.mono bel2.size)
      have z3 := q3.size
      have K := add_any w2.heap.size g ns b.mail ⟨b.next, f, t⟩ w3 hL (by omega)
      have HK := Lib.hid K
      clear c0 c1 c2 c3 f0 f1 f2 f3 K q3
      obtain ⟨c0, c1, f0, f1⟩ := two_cells k0
      have K0 := Lib.hid k0; have K1 := Lib.hid k1
      clear k0 k1 hL
      go_wp2_with fail
      refine HK.out.mono ?_
      rintro e w4 ⟨rfl, ⟨k, hL⟩, q4⟩
      have k0 := (q4.block _ z0).trans K0.out
      have k1 := (q4.block _ z1).trans K1.out
      have bel4 := bel3.trans (q4.mono bel2.size)
      have z4 := q4.size
      clear c0 c1 f0 f1 q4 HK K0 K1 bel3 G0 G1
      obtain ⟨c0, c1, f0, f1⟩ := two_cells k0
      have K0 := Lib.hid k0; have K1 := Lib.hid k1
      have HL := Lib.hid hL
      clear k0 k1 hL
      have hlen : (b.mail ++ [(⟨b.next, f, t⟩ : M)]).length = b.mail.length + 1 := by simp
      have KS := fun (W : World) (hW : Below w4.heap.size w4 W) => slice_any w2.heap.size g (b.mail ++ [(⟨b.next, f, t⟩ : M)]).length _ (ns ++ [k]) (b.mail ++ [(⟨b.next, f, t⟩ : M)]) W ((HL.out.below hW).head) ((HL.out.below hW).nodes) (by rw [hlen]; omega) (by rw [hlen]; omega)
      rw [hlen] at KS
      have HKS := Lib.hid KS
      have HLEN := Lib.hid hlen
      clear hlen KS
      go_wp2_with fail
      go_region_held3 (fun W => W.cell? ⟨w.heap.size, 0, none⟩ = some (.int .i64 b.next)) (first | exact c0 | (go_keep; done))
        ((go_at_call 39; refine (HKS.out _ (by first | exact Below.refl _ _ | exact (Below.refl _ _).drew)).mono ?_; rintro e w5 ⟨g5, cap5, rfl, ho, q5⟩;
          have k0 := (q5.block w.heap.size (by show _ < w4.heap.size; omega)).trans K0.out; have k1 := (q5.block (w.heap.size + 1) (by show _ < w4.heap.size; omega)).trans K1.out;
          have bel5 : Below w.heap.size w w5 := Below.trans (by first | exact bel4 | exact bel4.drew) (q5.mono (by show _ ≤ w4.heap.size; omega));
          obtain ⟨c0, c1, f0, f1⟩ := two_cells k0; obtain ⟨c2, c3, f2, f3⟩ := two_cells k1; have s5 := lt_of_block k1; have HO := Lib.hid ho; clear k0 k1 ho q5))
      go_wp2_with fail
      have hw : IntKind.i64.wrap (b.next + 1) = b.next + 1 := IntWalk.i64_in _ (by omega)
      refine bodyPost_ret (v := .tuple #[.agg #[.int .i64 (b.next + 1), .slice (some ⟨g5, 0, none⟩) (b.mail.length + 1) cap5], .bool true]) (by simp [results, Try.results25, go_sem, *]) rfl ⟨_, by rw [HR.out, HR2.out], ?_, ?_⟩
      · rw [HR.out, HR2.out]
        have h := HO.out
        rw [← HLEN.out] at h ⊢
        exact ((h.setLow (by show w.heap.size + 1 < w4.heap.size; omega) _).setLow (by show w.heap.size + 1 < w4.heap.size; omega) _).more (by show _ ≤ w4.heap.size; omega)
      · exact (bel5.setCell (by show w.heap.size ≤ w.heap.size + 1; omega) _).setCell (by show w.heap.size ≤ w.heap.size + 1; omega) _
  · have fin : ∀ W, Below w.heap.size w W → Own W w.heap.size (.slice none 0 0) (appendTo b f t).1.mail ∧ Below w.heap.size w W ∧ appendTo b f t = (nobox, false) := by
      have hr := appendTo_no (b := b) (f := f) (t := t) (by
        rcases hbk : bok b with _ | _
        · exact .inl rfl
        · rcases hfk : fok f with _ | _
          · exact .inr (.inl rfl)
          · exact .inr (.inr (fun h => hok ⟨hbk, hfk, h⟩)))
      intro W hW
      rw [hr]
      exact ⟨World.ownsRow_nil _ _ _ _, hW, rfl⟩
    have HF := Lib.hid fin
    clear fin HB g0 g1
    rcases hbk : bok b with _ | _
    · clear hok
      go_wp2_with fail
      refine bodyPost_ret (v := .tuple #[.agg #[.int .i64 0, .slice none 0 0], .bool false]) (by simp [results, Try.results25, go_sem, *]) rfl ?_
      have k := HF.out ((w2.setCell ⟨w.heap.size + 1, 0, none⟩ (.int .i64 0)).setCell ⟨w.heap.size + 1, 1, none⟩ (.slice none 0 0)) (by go_grown)
      exact ⟨_, by rw [k.2.2]; rfl, k.1, k.2.1⟩
    · rcases hfk : fok f with _ | _
      · clear hok
        go_wp2_with (go_at_call 36; refine (flagsValid_any _ _).mono ?_; rintro e w' ⟨rfl, rfl⟩)
        refine bodyPost_ret (v := .tuple #[.agg #[.int .i64 0, .slice none 0 0], .bool false]) (by simp [results, Try.results25, go_sem, *]) rfl ?_
        have k := HF.out ((w2.setCell ⟨w.heap.size + 1, 0, none⟩ (.int .i64 0)).setCell ⟨w.heap.size + 1, 1, none⟩ (.slice none 0 0)) (by go_grown)
        exact ⟨_, by rw [k.2.2]; rfl, k.1, k.2.1⟩
      · have ht : 20 < t.size := by
          rcases Nat.lt_or_ge 20 t.size with h | h
          · exact h
          · exact absurd ⟨hbk, hfk, h⟩ hok
        clear hok
        go_wp2_with (go_at_call 36; refine (flagsValid_any _ _).mono ?_; rintro e w' ⟨rfl, rfl⟩)
        refine bodyPost_ret (v := .tuple #[.agg #[.int .i64 0, .slice none 0 0], .bool false]) (by simp [results, Try.results25, go_sem, *]) rfl ?_
        have k := HF.out ((w2.setCell ⟨w.heap.size + 1, 0, none⟩ (.int .i64 0)).setCell ⟨w.heap.size + 1, 1, none⟩ (.slice none 0 0)) (by go_grown)
        exact ⟨_, by rw [k.2.2]; rfl, k.1, k.2.1⟩
end Go.Proofs.Ytpahgjideppmoaa

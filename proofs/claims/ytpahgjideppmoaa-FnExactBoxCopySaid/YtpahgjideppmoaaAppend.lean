/- WALKS: the reference appends a message. -/
import Derived.Test.YtpahgjideppmoaaMail
namespace Go.Proofs.Ytpahgjideppmoaa
open Go.RowKit
set_option linter.unusedVariables false

set_option maxRecDepth 100000 in
set_option maxHeartbeats 400000 in
theorem l11Append_any (b : B) (f : Int) (t : ByteArray) (v : Value) (w : World) (hb : BoxAt w v b) (hn0 : 0 ≤ b.next) :
    Calls Try.prog 21 #[v, .int .i64 f, .string t] w fun e w' => ∃ s, e = .returned (.tuple #[.agg #[.int .i64 (addTo b f t).1.next, s], .bool (addTo b f t).2]) ∧ Own w' w.heap.size s (addTo b f t).1.mail ∧ s ≠ .slice none 0 0 ∧ Below w.heap.size w w' := by
  have hb' := hb
  obtain ⟨s, rfl, a, L, cap, rfl, rfl, hcap, ⟨hmax, hnil⟩, hmail⟩ := hb
  obtain ⟨i0, hi, hz0, hz1, hz2⟩ := info_parts Try.infoMail
  obtain ⟨w1, hw1⟩ : ∃ w1, w1 = (w.alloc (.cells #[.int .i64 b.next, .slice a b.mail.length cap] 29)).alloc (.cells #[.int .i64 0, .slice none 0 0] 29) := ⟨_, rfl⟩
  have bel1 : Below w.heap.size w w1 := by rw [hw1]; go_grown
  have h0 : w1.heap[w.heap.size]? = some (.cells #[.int .i64 b.next, .slice a b.mail.length cap] 29 (0, 0)) := by
    rw [hw1, Below.heap_alloc _ _ _ (by simp)]; exact heap_alloc_new w _
  have h1 : w1.heap[w.heap.size + 1]? = some (.cells #[.int .i64 0, .slice none 0 0] 29 (0, 0)) := by
    rw [hw1]; have := heap_alloc_new (w.alloc (.cells #[.int .i64 b.next, .slice a b.mail.length cap] 29)) (.cells #[.int .i64 0, .slice none 0 0] 29); simpa using this
  have hsz : w.heap.size + 2 ≤ w1.heap.size := by rw [hw1]; simp
  have HW := Lib.hid hw1
  have K := l11Copy_at b (.agg #[.int .i64 b.next, .slice a b.mail.length cap]) w1 (hb'.below bel1)
  have HK := Lib.hid K
  clear hb' hnil hmail hw1 K
  go_enter Try.func21, Try.ntmps21
  go_wp2_with fail
  rw [← HW.out]
  refine HK.out.mono ?_
  rintro e w2 ⟨g, cap2, rfl, hc2, hg1, hg2, ho, q2⟩
  have g0 := (q2.block _ (by omega)).trans h0
  have g1 := (q2.block _ (by omega)).trans h1
  obtain ⟨c0, c1, _, _⟩ := two_cells g0
  obtain ⟨c2, c3, f2, f3⟩ := two_cells g1
  have bel2 := bel1.trans (q2.mono bel1.size)
  have z0 : w.heap.size < w2.heap.size := by have := q2.size; omega
  have z1 : w.heap.size + 1 < w2.heap.size := by have := q2.size; omega
  have HO := Lib.hid ho
  have G0 := Lib.hid g0; have G1 := Lib.hid g1
  clear h0 h1 ho g0 g1 bel1 q2 HK HW
  by_cases h10 : 10 ≤ b.mail.length
  · have hr : addTo b f t = (b, false) := by simp [addTo, h10]
    have HR := Lib.hid hr
    clear hr
    go_wp2_with fail
    refine bodyPost_ret (v := .tuple #[.agg #[.int .i64 b.next, .slice (some ⟨g, 0, none⟩) b.mail.length cap2], .bool false]) (by simp [results, Try.results21, go_sem, *]) rfl ⟨_, by rw [HR.out], ?_, by simp, ?_⟩
    · rw [HR.out]
      exact (((HO.out.setLow (by simp; omega) _).setLow (by simp; omega) _).alloc _).more (by omega)
    · go_grown
  · by_cases h99 : 99 < b.next
    · have hr : addTo b f t = (b, false) := by simp [addTo, h99]
      have HR := Lib.hid hr
      clear hr
      go_wp2_with fail
      refine bodyPost_ret (v := .tuple #[.agg #[.int .i64 b.next, .slice (some ⟨g, 0, none⟩) b.mail.length cap2], .bool false]) (by simp [results, Try.results21, go_sem, *]) rfl ⟨_, by rw [HR.out], ?_, by simp, ?_⟩
      · rw [HR.out]
        exact (((HO.out.setLow (by simp; omega) _).setLow (by simp; omega) _).alloc _).more (by omega)
      · go_grown
    · have hr : addTo b f t = (⟨b.next + 1, b.mail ++ [⟨b.next, f, t⟩]⟩, true) := by
        unfold addTo; rw [if_neg (by omega)]
      have HR := Lib.hid hr
      clear hr
      have hown : Own ((w2.alloc (.cells #[.int .i64 b.next, .slice (some ⟨g, 0, none⟩) b.mail.length cap2] 29)).alloc (.cells #[.int .i64 b.next, .int .i64 f, .string t] 47)) w1.heap.size (.slice (some ⟨g, 0, none⟩) b.mail.length cap2) b.mail := (HO.out.alloc _).alloc _
      have hnews : ∀ (j : Nat) u, (rowOf [⟨b.next, f, t⟩])[j]? = some u → ((w2.alloc (.cells #[.int .i64 b.next, .slice (some ⟨g, 0, none⟩) b.mail.length cap2] 29)).alloc (.cells #[.int .i64 b.next, .int .i64 f, .string t] 47)).cell? ((⟨w2.heap.size + 1, 0, none⟩ : Addr).add j) = some u := by
        intro j u hu
        rw [add_at, Nat.zero_add]
        have := cell_of_block (j := j) (heap_alloc_new (w2.alloc (.cells #[.int .i64 b.next, .slice (some ⟨g, 0, none⟩) b.mail.length cap2] 29)) (.cells #[.int .i64 b.next, .int .i64 f, .string t] 47)) (by simpa [rowOf, mcells] using hu)
        simpa using this
      have HO2 := Lib.hid hown; have HN := Lib.hid hnews
      clear hown hnews
      go_wp2_with (at_builtin; refine wpList_append_own _ rfl _ _ 27 rfl w1.heap.size 47 i0 (.agg #[.int .i64 0, .int .i64 0, .string ⟨#[]⟩]) 3 32 Try.underlying27 hi hz0 hz1 hz2 rfl (by decide) _ _ _ rfl HO2.out ⟨w2.heap.size + 1, 0, none⟩ 1 1 (rowOf [⟨b.next, f, t⟩]) rfl rfl HN.out (rowOf_one _) ?c1 ?c2 ?c3 ?_)
      case c1 => unfold maxLen; omega
      case c2 => omega
      case c3 => simp; omega
      intro v' w3 hown3 hgrow hiff
      have hv : ∃ g' cap' cur, v' = .slice (some ⟨g', 0, none⟩) (b.mail.length + 1) cap' ∧ w1.heap.size ≤ g' ∧ w3.heap[g']? = some (.cells cur 47 (0, 0)) := by
        rcases hown3.2 with ⟨h, h2⟩ | ⟨g', cap', cur, h, h2, h3, _⟩
        · omega
        · exact ⟨g', cap', cur, h, h2, h3⟩
      obtain ⟨g', cap', cur, rfl, hg', hrow⟩ := hv
      have hold : ∀ k, k < w2.heap.size → k ≠ g → w3.heap[k]? = w2.heap[k]? := fun k hk hne => (hgrow.block k (by simp; omega) (by simp [Value.ownBlock]; exact hne)).trans (by
        rw [Below.heap_alloc _ _ _ (by simp; omega), Below.heap_alloc _ _ _ hk])
      have k0 := (hold _ z0 (by omega)).trans G0.out
      have k1 := (hold _ z1 (by omega)).trans G1.out
      have k2 : w3.heap[w2.heap.size]? = some (.cells #[.int .i64 b.next, .slice (some ⟨g, 0, none⟩) b.mail.length cap2] 29 (0, 0)) := (hgrow.block _ (by simp; omega) (by simp [Value.ownBlock]; omega)).trans (by
        rw [Below.heap_alloc _ _ _ (by simp)]; exact heap_alloc_new w2 _)
      have z3 : w2.heap.size + 2 ≤ w3.heap.size := by have := hgrow.size; simp at this; omega
      have hown4 : Own w3 w1.heap.size (.slice (some ⟨g', 0, none⟩) (b.mail.length + 1) cap') (b.mail ++ [⟨b.next, f, t⟩]) := by
        unfold Own; rw [rowOf_append, List.length_append]; exact hown3
      have hne : g' ≠ w2.heap.size := fun e => by rw [e, k2] at hrow; simp at hrow
      have bel3 : Below w.heap.size w w3 := ((bel2.alloc bel2.size _).alloc (by have := bel2.size; simp; omega) _).grown hgrow (by have := bel2.size; simp; omega) (fun k hk => by simp [Value.ownBlock] at hk; omega)
      have HO4 := Lib.hid hown4
      clear hown3 hown4 hgrow hiff hold hrow c0 c1 c2 c3 f2 f3 bel2
      obtain ⟨c0, c1, _, _⟩ := two_cells k0
      obtain ⟨c2, c3, f2, f3⟩ := two_cells k1
      obtain ⟨c4, c5, f4, f5⟩ := two_cells k2
      clear k0 k1 k2
      go_wp2_with fail
      refine bodyPost_ret (v := .tuple #[.agg #[.int .i64 (b.next + 1), .slice (some ⟨g', 0, none⟩) (b.mail.length + 1) cap'], .bool true]) (by simp [results, Try.results21, go_sem, *]) rfl ⟨_, by rw [HR.out], ?_, by simp, ?_⟩
      · rw [HR.out]
        exact ((((HO4.out.setOther (by simp [Value.ownBlock]; exact hne) _).setOther (by simp [Value.ownBlock]; exact hne) _).setLow (by simp; omega) _).setLow (by simp; omega) _).more (by omega)
      · go_grown
set_option maxRecDepth 100000 in
set_option maxHeartbeats 400000 in
theorem specBoxAppend_any (b : B) (f : Int) (t : ByteArray) (v : Value) (w : World) (hb : BoxAt w v b) :
    Calls Try.prog 43 #[v, .int .i64 f, .string t] w fun e w' => ∃ s, e = .returned (.tuple #[.agg #[.int .i64 (appendTo b f t).1.next, s], .bool (appendTo b f t).2]) ∧ Own w' w.heap.size s (appendTo b f t).1.mail ∧ Below w.heap.size w w' := by
  have hb' := hb
  obtain ⟨s, rfl, a, L, cap, rfl, rfl, hcap, ⟨hmax, hnil⟩, hmail⟩ := hb
  obtain ⟨w1, hw1⟩ : ∃ w1, w1 = (w.alloc (.cells #[.int .i64 b.next, .slice a b.mail.length cap] 29)).alloc (.cells #[.int .i64 0, .slice none 0 0] 29) := ⟨_, rfl⟩
  have bel1 : Below w.heap.size w w1 := by rw [hw1]; go_grown
  have h0 : w1.heap[w.heap.size]? = some (.cells #[.int .i64 b.next, .slice a b.mail.length cap] 29 (0, 0)) := by
    rw [hw1, Below.heap_alloc _ _ _ (by simp)]; exact heap_alloc_new w _
  have h1 : w1.heap[w.heap.size + 1]? = some (.cells #[.int .i64 0, .slice none 0 0] 29 (0, 0)) := by
    rw [hw1]; have := heap_alloc_new (w.alloc (.cells #[.int .i64 b.next, .slice a b.mail.length cap] 29)) (.cells #[.int .i64 0, .slice none 0 0] 29); simpa using this
  have hsz : w.heap.size + 2 ≤ w1.heap.size := by rw [hw1]; simp
  have HW := Lib.hid hw1
  have K := specBoxValid_any b (.agg #[.int .i64 b.next, .slice a b.mail.length cap]) w1 (hb'.below bel1)
  have HK := Lib.hid K
  have HB := Lib.hid hb'
  clear hb' hnil hmail hw1 K
  go_enter Try.func43, Try.ntmps43
  go_wp2_with fail
  rw [← HW.out]
  refine HK.out.mono ?_
  rintro e w2 ⟨rfl, q2⟩
  have g0 := (q2.block _ (by omega)).trans h0
  have g1 := (q2.block _ (by omega)).trans h1
  have bel2 := bel1.trans (q2.mono bel1.size)
  have z0 : w.heap.size < w2.heap.size := by have := q2.size; omega
  have z1 : w.heap.size + 1 < w2.heap.size := by have := q2.size; omega
  clear h0 h1 bel1 q2 HK HW
  obtain ⟨c0, c1, _, _⟩ := two_cells g0
  obtain ⟨c2, c3, f2, f3⟩ := two_cells g1
  by_cases hok : bok b = true ∧ fok f = true ∧ t.size ≤ 20
  · obtain ⟨hb, hf, ht⟩ := hok
    have hr := appendTo_yes hb hf ht
    have HR := Lib.hid hr
    have hn := bok_next hb
    have K := l11Append_any b f t (.agg #[.int .i64 b.next, .slice a b.mail.length cap]) w2 (HB.out.below bel2) (by omega)
    have HK := Lib.hid K
    have G1 := Lib.hid g1
    clear hr K g0 g1 c2 c3 f2 f3 HB
    rw [hb]
    go_wp2_with (go_at_call 46; refine (l4Flags_any _ _).mono ?_; rintro e w' ⟨rfl, rfl⟩)
    refine HK.out.mono ?_
    rintro e w3 ⟨s, rfl, ho, hne, q3⟩
    obtain ⟨g, cap', rfl, hc', hg1, hg2⟩ := ho.form hne
    have k1 := (q3.block _ z1).trans G1.out
    have bel3 := bel2.trans (q3.mono bel2.size)
    obtain ⟨c2, c3, f2, f3⟩ := two_cells k1
    obtain ⟨r, hrr⟩ : ∃ r, addTo b f t = r := ⟨_, rfl⟩
    have HRR := Lib.hid hrr
    rw [hrr] at ho hc' ⊢
    have HO := Lib.hid ho
    clear hrr ho hne k1
    go_wp2_with fail
    refine bodyPost_ret (v := .tuple #[.agg #[.int .i64 r.1.next, .slice (some ⟨g, 0, none⟩) r.1.mail.length cap'], .bool r.2]) (by simp [results, Try.results43, go_sem, *]) rfl ⟨_, by rw [HR.out, HRR.out], ?_, ?_⟩
    · rw [HR.out, HRR.out]
      exact ((HO.out.setLow (by simp; omega) _).setLow (by simp; omega) _).more (by omega)
    · go_grown
  · have fin : ∀ W, Below w.heap.size w W → Own W w.heap.size (.slice none 0 0) (appendTo b f t).1.mail ∧ Below w.heap.size w W ∧ appendTo b f t = (nobox, false) := by
      have hr := appendTo_no (b := b) (f := f) (t := t) (by
        rcases hbk : bok b with _ | _
        · exact .inl rfl
        · rcases hfk : fok f with _ | _
          · exact .inr (.inl rfl)
          · exact .inr (.inr (fun h => hok ⟨hbk, hfk, h⟩)))
      intro W hW
      rw [hr]
      exact ⟨World.ownsRow_nil _ _ _ _, hW, rfl⟩
    have HF := Lib.hid fin
    clear fin HB g0 g1
    rcases hbk : bok b with _ | _
    · clear hok
      go_wp2_with fail
      refine bodyPost_ret (v := .tuple #[.agg #[.int .i64 0, .slice none 0 0], .bool false]) (by simp [results, Try.results43, go_sem, *]) rfl ?_
      have k := HF.out ((w2.setCell ⟨w.heap.size + 1, 0, none⟩ (.int .i64 0)).setCell ⟨w.heap.size + 1, 1, none⟩ (.slice none 0 0)) (by go_grown)
      exact ⟨_, by rw [k.2.2]; rfl, k.1, k.2.1⟩
    · rcases hfk : fok f with _ | _
      · clear hok
        go_wp2_with (go_at_call 46; refine (l4Flags_any _ _).mono ?_; rintro e w' ⟨rfl, rfl⟩)
        refine bodyPost_ret (v := .tuple #[.agg #[.int .i64 0, .slice none 0 0], .bool false]) (by simp [results, Try.results43, go_sem, *]) rfl ?_
        have k := HF.out ((w2.setCell ⟨w.heap.size + 1, 0, none⟩ (.int .i64 0)).setCell ⟨w.heap.size + 1, 1, none⟩ (.slice none 0 0)) (by go_grown)
        exact ⟨_, by rw [k.2.2]; rfl, k.1, k.2.1⟩
      · have ht : 20 < t.size := by
          rcases Nat.lt_or_ge 20 t.size with h | h
          · exact h
          · exact absurd ⟨hbk, hfk, h⟩ hok
        clear hok
        go_wp2_with (go_at_call 46; refine (l4Flags_any _ _).mono ?_; rintro e w' ⟨rfl, rfl⟩)
        refine bodyPost_ret (v := .tuple #[.agg #[.int .i64 0, .slice none 0 0], .bool false]) (by simp [results, Try.results43, go_sem, *]) rfl ?_
        have k := HF.out ((w2.setCell ⟨w.heap.size + 1, 0, none⟩ (.int .i64 0)).setCell ⟨w.heap.size + 1, 1, none⟩ (.slice none 0 0)) (by go_grown)
        exact ⟨_, by rw [k.2.2]; rfl, k.1, k.2.1⟩
end Go.Proofs.Ytpahgjideppmoaa

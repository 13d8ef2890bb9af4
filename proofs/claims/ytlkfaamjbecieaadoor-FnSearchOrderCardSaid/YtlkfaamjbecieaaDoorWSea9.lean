/- WALKS of the laws of a search: both keys may be exchanged. -/
import Derived.Test.YtlkfaamjbecieaaDoorSWalk
namespace Go.Proofs.YtlkfaamjbecieaaDoor
open Go.RowKit
set_option linter.unusedVariables false

set_option maxRecDepth 100000 in
set_option maxHeartbeats 4000000 in
theorem fnSearchOrder.walk (a : Option Addr) (len cap : Nat) (hl : len ≤ cap) (hm : cap ≤ maxLen) (w : World) (hSe : Sees w) (hc : CodeAt w a len) :
    Calls Tryd.prog 7 #[.slice a len cap] w fun e w' => e = .returned (.bool true) ∧ Below w.heap.size w w' := by
  by_cases hlen : 1048576 < len
  · unfold maxLen at hm
    clear hc hSe
    go_enter Tryd.func7, Tryd.ntmps7
    go_wp2_with fail
    go_ret
    exact ⟨rfl, Below.refl _ _⟩
  go_enter Tryd.func7, Tryd.ntmps7
  unfold maxLen at hm
  go_wp2_with fail
  refine (DrawSearchBox_any a len cap hl w hc).mono ?_
  clear hc
  rintro e w1 ⟨b, ab, cpb, k, S, kv, rfl, hb, hk, hi, hlow, hF, hn, b1⟩
  obtain ⟨sa, sn, sc, ka, kn, kc, rfl, hjunk⟩ := hk.open
  have hbx := hb.box
  have hl10 := hb.1.2.2
  have hcp : b.mail.length ≤ cpb := by
    obtain ⟨s', hv, x, n', c', hs, h1, h2, _⟩ := hbx
    simp only [Value.agg.injEq, Array.mk.injEq, List.cons.injEq, and_true] at hv
    obtain ⟨_, rfl⟩ := hv
    simp only [Value.slice.injEq] at hs
    omega
  obtain ⟨L, hL⟩ : ∃ L, b.mail.length = L := ⟨_, rfl⟩
  rw [hL] at hbx hl10 hcp ⊢
  obtain ⟨w2, hw2⟩ : ∃ w2, w2 = (w1.alloc (.cells #[.int .i64 b.next, .slice ab L cpb] 25)).alloc (.cells #[.int .i64 k.kind, .int .i64 k.flag, .string k.text, .slice sa sn sc, .slice ka kn kc] 29) := ⟨_, rfl⟩
  have hSL : SL w S b k #[.int .i64 b.next, .slice ab L cpb] #[.int .i64 k.kind, .int .i64 k.flag, .string k.text, .slice sa sn sc, .slice ka kn kc] w1.heap.size (w1.heap.size + 1) w2 := by
    have b2 : Below w1.heap.size w1 w2 := by rw [hw2]; go_grown
    refine ⟨hbx.below b2, hk.below hi b2, hi.below b2, ?_, ?_, hSe.1.below (b1.trans (b2.mono b1.size)), hSe.2.below (b1.trans (b2.mono b1.size)), b1.trans (b2.mono b1.size), b1.size⟩
    · rw [hw2, Below.heap_alloc _ _ _ (by simp)]; exact heap_alloc_new w1 _
    · rw [hw2]; exact alloc_at _ _ (by simp)
  have HL := Lib.hid hSL; have HW := Lib.hid hw2; have HBL := Lib.hid hL
  obtain ⟨xb, hxb⟩ : ∃ xb, w1.heap.size = xb := ⟨_, rfl⟩
  have HXB := Lib.hid hxb
  rw [hxb] at HL
  clear hSL hw2 hk hi hlow b1 hjunk hb hbx hL hxb hlen
  go_wp2_with fail
  rw [← HW.out, HXB.out]
  clear HW HXB
  obtain ⟨l, hlv⟩ : ∃ l, searchOf b k = l := ⟨_, rfl⟩
  obtain ⟨N, hN⟩ : ∃ N, l.length = N := ⟨_, rfl⟩
  have HLV := Lib.hid hlv; have HN := Lib.hid hN
  have hI := implSearchBox_any b k _ _ S w2 HL.out.bat HL.out.kat HL.out.ins hF HL.out.nam HL.out.mi
  rw [hlv] at hI
  have HI := Lib.hid hI
  clear hlv hN hI
  obtain ⟨c0, c1, f0, f1⟩ := two_cells HL.out.box
  obtain ⟨e0, e1, e2, e3, e4, y0, y1, y2, y3, y4⟩ := five_cells HL.out.key
  clear f0 f1 y0 y1 y2 y3 y4
  go_wp2_with fail
  refine HI.out.mono ?_
  rintro e w3 ⟨g5, cp5, rfl, ho5, q3⟩
  have h5 := ho5.at (by have := search_len b k; rw [HLV.out] at this; have h2 := HBL.out; omega)
  rw [HN.out] at h5 ⊢
  replace HL := Lib.hid (HL.out.below q3)
  have O5 := Lib.hid h5
  have hI := specSearchBox_any b k _ _ S w3 HL.out.bat HL.out.kat HL.out.ins hF (by omega)
  rw [HLV.out] at hI
  replace HI := Lib.hid hI
  clear ho5 q3 h5 hI c0 c1 e0 e1 e2 e3 e4
  obtain ⟨c0, c1, f0, f1⟩ := two_cells HL.out.box
  obtain ⟨e0, e1, e2, e3, e4, y0, y1, y2, y3, y4⟩ := five_cells HL.out.key
  clear f0 f1 y0 y1 y2 y3 y4
  go_wp2_with fail
  refine HI.out.mono ?_
  rintro e w4 ⟨g6, cp6, rfl, ho6, q4⟩
  have h6 := ho6.at (by have := search_len b k; rw [HLV.out] at this; have h2 := HBL.out; omega)
  rw [HN.out] at h6 ⊢
  replace HL := Lib.hid (HL.out.below q4)
  replace O5 := Lib.hid (O5.out.below q4)
  have O6 := Lib.hid h6
  have hsm := sameInts_any l _ _ w4 O5.out O6.out
  have HSM := Lib.hid hsm
  clear ho6 q4 h6 hsm HI c0 c1 e0 e1 e2 e3 e4
  obtain ⟨c0, c1, f0, f1⟩ := two_cells HL.out.box
  obtain ⟨e0, e1, e2, e3, e4, y0, y1, y2, y3, y4⟩ := five_cells HL.out.key
  clear f0 f1 y0 y1 y2 y3 y4
  go_wp2_with fail
  refine HSM.out.mono ?_
  rintro e w5 ⟨rfl, q5⟩
  replace HL := Lib.hid (HL.out.below q5)
  replace O5 := Lib.hid (O5.out.below q5)
  replace O6 := Lib.hid (O6.out.below q5)
  have hbv := specBoxValid_any b _ w5 HL.out.bat
  have HBV := Lib.hid hbv
  clear q5 hbv HSM c0 c1 e0 e1 e2 e3 e4
  obtain ⟨c0, c1, f0, f1⟩ := two_cells HL.out.box
  obtain ⟨e0, e1, e2, e3, e4, y0, y1, y2, y3, y4⟩ := five_cells HL.out.key
  clear f0 f1 y0 y1 y2 y3 y4
  go_wp2_with fail
  refine HBV.out.mono ?_
  rintro e w6 ⟨rfl, q6⟩
  replace HL := Lib.hid (HL.out.below q6)
  replace O5 := Lib.hid (O5.out.below q6)
  replace O6 := Lib.hid (O6.out.below q6)
  have hkv := specKeyValid_any k _ S w6 HL.out.kat HL.out.ins hF (by omega)
  have HKV := Lib.hid hkv
  clear q6 hkv HBV c0 c1 e0 e1 e2 e3 e4
  obtain ⟨c0, c1, f0, f1⟩ := two_cells HL.out.box
  obtain ⟨e0, e1, e2, e3, e4, y0, y1, y2, y3, y4⟩ := five_cells HL.out.key
  clear f0 f1 y0 y1 y2 y3 y4
  rcases hbk : bok b with _ | _
  · have hsm := sameInts_any l _ _ w6 O5.out O6.out
    have HSM := Lib.hid hsm
    clear hsm hbk
    go_wp2_with fail
    refine HSM.out.mono ?_
    rintro e w7 ⟨rfl, q7⟩
    have hf := HL.out.bel.trans (q7.mono HL.out.bel.size)
    clear q7 c0 c1 e0 e1 e2 e3 e4
    go_wp2_with fail
    go_ret
    exact ⟨rfl, hf⟩
  have HBK := Lib.hid hbk
  clear hbk
  go_wp2_with fail
  refine HKV.out.mono ?_
  rintro e w7 ⟨rfl, q7⟩
  replace HL := Lib.hid (HL.out.below q7)
  replace O5 := Lib.hid (O5.out.below q7)
  replace O6 := Lib.hid (O6.out.below q7)
  clear q7 HKV c0 c1 e0 e1 e2 e3 e4
  rcases hok : keyOk k with _ | _
  · have hsm := sameInts_any l _ _ w7 O5.out O6.out
    have HSM := Lib.hid hsm
    clear hsm hok
    go_wp2_with fail
    refine HSM.out.mono ?_
    rintro e w8 ⟨rfl, q8⟩
    have hf := HL.out.bel.trans (q8.mono HL.out.bel.size)
    clear q8
    go_wp2_with fail
    go_ret
    exact ⟨rfl, hf⟩
  have HOK := Lib.hid hok
  clear hok
  obtain ⟨c0, c1, f0, f1⟩ := two_cells HL.out.box
  obtain ⟨e0, e1, e2, e3, e4, y0, y1, y2, y3, y4⟩ := five_cells HL.out.key
  clear f0 f1 y0 y1 y2 y3 y4
  clear O6
  have hnok : (ktext ⟨#[111]⟩).Fit := Fit.leaf (by decide)
  obtain ⟨l2, hl2⟩ : ∃ l2, searchOf b (kjoin 6 k (ktext ⟨#[111]⟩)) = l2 := ⟨_, rfl⟩
  obtain ⟨l3, hl3⟩ : ∃ l3, searchOf b (kjoin 7 k (ktext ⟨#[111]⟩)) = l3 := ⟨_, rfl⟩
  have hl2' : searchOf b (kjoin 6 (ktext ⟨#[111]⟩) k) = l2 := by rw [← hl2]; exact join_swap (.inl rfl) _ _ _
  have hl3' : searchOf b (kjoin 7 (ktext ⟨#[111]⟩) k) = l3 := by rw [← hl3]; exact join_swap (.inr rfl) _ _ _
  have n2 : l2.length ≤ 10 := by have := search_len b (kjoin 6 k (ktext ⟨#[111]⟩)); rw [hl2, HBL.out] at this; omega
  have n3 : l3.length ≤ 10 := by have := search_len b (kjoin 7 k (ktext ⟨#[111]⟩)); rw [hl3, HBL.out] at this; omega
  obtain ⟨w8, hw8⟩ : ∃ w8, w8 = w7.alloc (.cells #[.int .i64 2, .int .i64 0, .string ⟨#[111]⟩, .slice none 0 0, .slice none 0 0] 29) := ⟨_, rfl⟩
  have q8 : Below w7.heap.size w7 w8 := by rw [hw8]; exact (Below.refl _ _).alloc (Nat.le_refl _) _
  have hx8 : w8.heap[w7.heap.size]? = some (.cells #[.int .i64 2, .int .i64 0, .string ⟨#[111]⟩, .slice none 0 0, .slice none 0 0] 29 (0, 0)) := by rw [hw8]; exact heap_alloc_new w7 _
  obtain ⟨xk, hxk⟩ : ∃ xk, w7.heap.size = xk := ⟨_, rfl⟩
  rw [hxk] at hx8
  have HW8 := Lib.hid hw8; have HXK := Lib.hid hxk
  replace HL := Lib.hid (HL.out.below q8)
  replace O5 := Lib.hid (O5.out.below q8)
  have HX : Hid (SL w S b (.mk 2 0 ⟨#[111]⟩ [] []) #[.int .i64 b.next, .slice ab L cpb] #[.int .i64 2, .int .i64 0, .string ⟨#[111]⟩, .slice none 0 0, .slice none 0 0] xb xk w8) := ⟨HL.out.bat, leafAt w8 S 2 0 ⟨#[111]⟩, HL.out.ins, HL.out.box, hx8, HL.out.nam, HL.out.mi, HL.out.bel, HL.out.lo⟩
  have HZ := Lib.hid (fun (W : World) (q : Below w8.heap.size w8 W) => And.intro (HL.out.below q).cells2 (And.intro (HL.out.below q).cells5 (HX.out.below q).cells5))
  have bb : Below w8.heap.size w8 w8 := Below.refl _ _
  have ZZ := HZ.out w8 bb
  clear hw8 q8 hx8 hxk
  go_wp2_with fail
  rw [HXK.out, ← HW8.out]
  clear HW8 HXK c0 c1 e0 e1 e2 e3 e4
  have hs0 := fun (W : World) (q : Below w8.heap.size w8 W) (S' : Nat → Prop) (v : Value) (hv : KeyAt W S' (kjoin 6 k (ktext ⟨#[111]⟩)) v) (hi : Ins S' W) => implSearchBox_any b (kjoin 6 k (ktext ⟨#[111]⟩)) _ v S' W (HL.out.below q).bat hv hi (Fit.two hF hnok) (HL.out.below q).nam (HL.out.below q).mi
  rw [hl2] at hs0
  have HJ0 := Lib.hid (fun (W : World) (q : Below w8.heap.size w8 W) => join_any 6 k (ktext ⟨#[111]⟩) _ _ S W (HL.out.below q).kat (HX.out.below q).kat (HL.out.below q).ins)
  have hs1 := fun (W : World) (q : Below w8.heap.size w8 W) (S' : Nat → Prop) (v : Value) (hv : KeyAt W S' (kjoin 6 (ktext ⟨#[111]⟩) k) v) (hi : Ins S' W) => implSearchBox_any b (kjoin 6 (ktext ⟨#[111]⟩) k) _ v S' W (HL.out.below q).bat hv hi (Fit.two hnok hF) (HL.out.below q).nam (HL.out.below q).mi
  rw [hl2'] at hs1
  have HJ1 := Lib.hid (fun (W : World) (q : Below w8.heap.size w8 W) => join_any 6 (ktext ⟨#[111]⟩) k _ _ S W (HX.out.below q).kat (HL.out.below q).kat (HL.out.below q).ins)
  have hs2 := fun (W : World) (q : Below w8.heap.size w8 W) (S' : Nat → Prop) (v : Value) (hv : KeyAt W S' (kjoin 7 k (ktext ⟨#[111]⟩)) v) (hi : Ins S' W) => implSearchBox_any b (kjoin 7 k (ktext ⟨#[111]⟩)) _ v S' W (HL.out.below q).bat hv hi (Fit.two hF hnok) (HL.out.below q).nam (HL.out.below q).mi
  rw [hl3] at hs2
  have HJ2 := Lib.hid (fun (W : World) (q : Below w8.heap.size w8 W) => join_any 7 k (ktext ⟨#[111]⟩) _ _ S W (HL.out.below q).kat (HX.out.below q).kat (HL.out.below q).ins)
  have hs3 := fun (W : World) (q : Below w8.heap.size w8 W) (S' : Nat → Prop) (v : Value) (hv : KeyAt W S' (kjoin 7 (ktext ⟨#[111]⟩) k) v) (hi : Ins S' W) => implSearchBox_any b (kjoin 7 (ktext ⟨#[111]⟩) k) _ v S' W (HL.out.below q).bat hv hi (Fit.two hnok hF) (HL.out.below q).nam (HL.out.below q).mi
  rw [hl3'] at hs3
  have HJ3 := Lib.hid (fun (W : World) (q : Below w8.heap.size w8 W) => join_any 7 (ktext ⟨#[111]⟩) k _ _ S W (HX.out.below q).kat (HL.out.below q).kat (HL.out.below q).ins)
  have HS0 := Lib.hid hs0; have HS1 := Lib.hid hs1; have HS2 := Lib.hid hs2; have HS3 := Lib.hid hs3
  clear hs0 hs1 hs2 hs3 hl2 hl3 hl2' hl3' hnok O5
  go_region_held3 (fun W => (W.cell? ⟨xb, 0, none⟩ = some (.int .i64 b.next) ∧ W.cell? ⟨xb, 1, none⟩ = some (.slice ab L cpb)) ∧ (W.cell? ⟨xb + 1, 0, none⟩ = some (.int .i64 k.kind) ∧ W.cell? ⟨xb + 1, 1, none⟩ = some (.int .i64 k.flag) ∧ W.cell? ⟨xb + 1, 2, none⟩ = some (.string k.text) ∧ W.cell? ⟨xb + 1, 3, none⟩ = some (.slice sa sn sc) ∧ W.cell? ⟨xb + 1, 4, none⟩ = some (.slice ka kn kc)) ∧ (W.cell? ⟨xk, 0, none⟩ = some (.int .i64 2) ∧ W.cell? ⟨xk, 1, none⟩ = some (.int .i64 0) ∧ W.cell? ⟨xk, 2, none⟩ = some (.string ⟨#[111]⟩) ∧ W.cell? ⟨xk, 3, none⟩ = some (.slice none 0 0) ∧ W.cell? ⟨xk, 4, none⟩ = some (.slice none 0 0))) (first | exact ZZ | (go_keep; done)) (first | (go_at_call 21; (with_reducible refine Calls.mono (HJ0.out _ ?_) ?_); (focus (first | exact bb | exact bb.drew | exact bb.drew.drew)); rintro e w9 ⟨gj, rfl, hgj, hkj, hij, qj⟩; replace bb := Below.trans (by first | exact bb | exact bb.drew | exact bb.drew.drew) (qj.mono (by exact bb.size)); replace ZZ := HZ.out _ bb; have HKJ := Lib.hid hkj; have HIJ := Lib.hid hij; try replace R1 := Lib.hid (R1.out.below (Below.trans (by first | exact Below.refl _ _ | exact (Below.refl _ _).drew | exact (Below.refl _ _).drew.drew) qj)); clear hkj hij hgj qj) | (go_at_call 21; (with_reducible refine Calls.mono (HJ1.out _ ?_) ?_); (focus (first | exact bb | exact bb.drew | exact bb.drew.drew)); rintro e w9 ⟨gj, rfl, hgj, hkj, hij, qj⟩; replace bb := Below.trans (by first | exact bb | exact bb.drew | exact bb.drew.drew) (qj.mono (by exact bb.size)); replace ZZ := HZ.out _ bb; have HKJ := Lib.hid hkj; have HIJ := Lib.hid hij; try replace R1 := Lib.hid (R1.out.below (Below.trans (by first | exact Below.refl _ _ | exact (Below.refl _ _).drew | exact (Below.refl _ _).drew.drew) qj)); clear hkj hij hgj qj) | (go_at_call 21; (with_reducible refine Calls.mono (HJ2.out _ ?_) ?_); (focus (first | exact bb | exact bb.drew | exact bb.drew.drew)); rintro e w9 ⟨gj, rfl, hgj, hkj, hij, qj⟩; replace bb := Below.trans (by first | exact bb | exact bb.drew | exact bb.drew.drew) (qj.mono (by exact bb.size)); replace ZZ := HZ.out _ bb; have HKJ := Lib.hid hkj; have HIJ := Lib.hid hij; try replace R1 := Lib.hid (R1.out.below (Below.trans (by first | exact Below.refl _ _ | exact (Below.refl _ _).drew | exact (Below.refl _ _).drew.drew) qj)); clear hkj hij hgj qj) | (go_at_call 21; (with_reducible refine Calls.mono (HJ3.out _ ?_) ?_); (focus (first | exact bb | exact bb.drew | exact bb.drew.drew)); rintro e w9 ⟨gj, rfl, hgj, hkj, hij, qj⟩; replace bb := Below.trans (by first | exact bb | exact bb.drew | exact bb.drew.drew) (qj.mono (by exact bb.size)); replace ZZ := HZ.out _ bb; have HKJ := Lib.hid hkj; have HIJ := Lib.hid hij; try replace R1 := Lib.hid (R1.out.below (Below.trans (by first | exact Below.refl _ _ | exact (Below.refl _ _).drew | exact (Below.refl _ _).drew.drew) qj)); clear hkj hij hgj qj) | (go_at_call 14; refine Calls.mono (HS0.out _ (by first | exact bb | exact bb.drew | exact bb.drew.drew) _ _ (HKJ.out.below HIJ.out (by first | exact Below.refl _ _ | exact (Below.refl _ _).drew | exact (Below.refl _ _).drew.drew)) (HIJ.out.below (by first | exact Below.refl _ _ | exact (Below.refl _ _).drew | exact (Below.refl _ _).drew.drew))) ?_; rintro e w10 ⟨g10, cp10, rfl, ho10, q10⟩; replace bb := Below.trans (by first | exact bb | exact bb.drew | exact bb.drew.drew) (q10.mono (by exact bb.size)); replace ZZ := HZ.out _ bb; have R1 := Lib.hid (ho10.at (by omega)); clear ho10 q10) | (go_at_call 14; refine Calls.mono (HS1.out _ (by first | exact bb | exact bb.drew | exact bb.drew.drew) _ _ (HKJ.out.below HIJ.out (by first | exact Below.refl _ _ | exact (Below.refl _ _).drew | exact (Below.refl _ _).drew.drew)) (HIJ.out.below (by first | exact Below.refl _ _ | exact (Below.refl _ _).drew | exact (Below.refl _ _).drew.drew))) ?_; rintro e w10 ⟨g10, cp10, rfl, ho10, q10⟩; replace bb := Below.trans (by first | exact bb | exact bb.drew | exact bb.drew.drew) (q10.mono (by exact bb.size)); replace ZZ := HZ.out _ bb; replace R1 := Lib.hid (R1.out.below (Below.trans (by first | exact Below.refl _ _ | exact (Below.refl _ _).drew | exact (Below.refl _ _).drew.drew) q10)); have R2 := Lib.hid (ho10.at (by omega)); clear ho10 q10) | (go_at_call 14; refine Calls.mono (HS2.out _ (by first | exact bb | exact bb.drew | exact bb.drew.drew) _ _ (HKJ.out.below HIJ.out (by first | exact Below.refl _ _ | exact (Below.refl _ _).drew | exact (Below.refl _ _).drew.drew)) (HIJ.out.below (by first | exact Below.refl _ _ | exact (Below.refl _ _).drew | exact (Below.refl _ _).drew.drew))) ?_; rintro e w10 ⟨g10, cp10, rfl, ho10, q10⟩; replace bb := Below.trans (by first | exact bb | exact bb.drew | exact bb.drew.drew) (q10.mono (by exact bb.size)); replace ZZ := HZ.out _ bb; have R1 := Lib.hid (ho10.at (by omega)); clear ho10 q10) | (go_at_call 14; refine Calls.mono (HS3.out _ (by first | exact bb | exact bb.drew | exact bb.drew.drew) _ _ (HKJ.out.below HIJ.out (by first | exact Below.refl _ _ | exact (Below.refl _ _).drew | exact (Below.refl _ _).drew.drew)) (HIJ.out.below (by first | exact Below.refl _ _ | exact (Below.refl _ _).drew | exact (Below.refl _ _).drew.drew))) ?_; rintro e w10 ⟨g10, cp10, rfl, ho10, q10⟩; replace bb := Below.trans (by first | exact bb | exact bb.drew | exact bb.drew.drew) (q10.mono (by exact bb.size)); replace ZZ := HZ.out _ bb; replace R1 := Lib.hid (R1.out.below (Below.trans (by first | exact Below.refl _ _ | exact (Below.refl _ _).drew | exact (Below.refl _ _).drew.drew) q10)); have R2 := Lib.hid (ho10.at (by omega)); clear ho10 q10) | (go_at_call 16; refine Calls.mono (sameInts_any l2 _ _ _ (R1.out.below (by first | exact Below.refl _ _ | exact (Below.refl _ _).drew | exact (Below.refl _ _).drew.drew)) (R2.out.below (by first | exact Below.refl _ _ | exact (Below.refl _ _).drew | exact (Below.refl _ _).drew.drew))) ?_; rintro e w11 ⟨rfl, q11⟩; replace bb := Below.trans (by first | exact bb | exact bb.drew | exact bb.drew.drew) (q11.mono (by exact bb.size)); replace ZZ := HZ.out _ bb; clear R1 R2 HKJ HIJ q11; have PART := bb) | (go_at_call 16; refine Calls.mono (sameInts_any l3 _ _ _ (R1.out.below (by first | exact Below.refl _ _ | exact (Below.refl _ _).drew | exact (Below.refl _ _).drew.drew)) (R2.out.below (by first | exact Below.refl _ _ | exact (Below.refl _ _).drew | exact (Below.refl _ _).drew.drew))) ?_; rintro e w11 ⟨rfl, q11⟩; replace bb := Below.trans (by first | exact bb | exact bb.drew | exact bb.drew.drew) (q11.mono (by exact bb.size)); replace ZZ := HZ.out _ bb; clear R1 R2 HKJ HIJ q11; have PART := bb))
  have hf := HL.out.bel.trans (bb.mono HL.out.bel.size)
  go_wp2_with fail
  go_ret
  exact ⟨rfl, by first | exact hf | exact hf.drew | exact below_drewN hf _⟩
end Go.Proofs.YtlkfaamjbecieaaDoor

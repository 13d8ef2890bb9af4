/- WALKS of the laws of a search: or finds what one finds. -/
import Derived.Test.YtlkfaamjbecieaaDoorSWalk
namespace Go.Proofs.YtlkfaamjbecieaaDoor
open Go.RowKit
set_option linter.unusedVariables false

set_option maxRecDepth 100000 in
set_option maxHeartbeats 4000000 in
theorem fnSearchOr.walk (a : Option Addr) (len cap : Nat) (hl : len ≤ cap) (hm : cap ≤ maxLen) (w : World) (hSe : Sees w) (hc : CodeAt w a len) :
    Calls Tryd.prog 5 #[.slice a len cap] w fun e w' => e = .returned (.bool true) ∧ Below w.heap.size w w' := by
  by_cases hlen : 1048576 < len
  · unfold maxLen at hm
    clear hc hSe
    go_enter Tryd.func5, Tryd.ntmps5
    go_wp2_with fail
    go_ret
    exact ⟨rfl, Below.refl _ _⟩
  go_enter Tryd.func5, Tryd.ntmps5
  unfold maxLen at hm
  go_wp2_with fail
  refine (DrawSearchBox_any a len cap hl w hc).mono ?_
  clear hc
  rintro e w1 ⟨b, ab, cpb, k, S, kv, rfl, hb, hk, hi, hlow, hF, hn, b1⟩
  obtain ⟨sa, sn, sc, ka, kn, kc, rfl, hjunk⟩ := hk.open
  have hbx := hb.box
  have hl10 := hb.1.2.2
  have hcp : b.mail.length ≤ cpb := by
    obtain ⟨s', hv, x, n', c', hs, h1, h2, _⟩ := hbx
    simp only [Value.agg.injEq, Array.mk.injEq, List.cons.injEq, and_true] at hv
    obtain ⟨_, rfl⟩ := hv
    simp only [Value.slice.injEq] at hs
    omega
  obtain ⟨L, hL⟩ : ∃ L, b.mail.length = L := ⟨_, rfl⟩
  rw [hL] at hbx hl10 hcp ⊢
  obtain ⟨w2, hw2⟩ : ∃ w2, w2 = (w1.alloc (.cells #[.int .i64 b.next, .slice ab L cpb] 25)).alloc (.cells #[.int .i64 k.kind, .int .i64 k.flag, .string k.text, .slice sa sn sc, .slice ka kn kc] 29) := ⟨_, rfl⟩
  have hSL : SL w S b k #[.int .i64 b.next, .slice ab L cpb] #[.int .i64 k.kind, .int .i64 k.flag, .string k.text, .slice sa sn sc, .slice ka kn kc] w1.heap.size (w1.heap.size + 1) w2 := by
    have b2 : Below w1.heap.size w1 w2 := by rw [hw2]; go_grown
    refine ⟨hbx.below b2, hk.below hi b2, hi.below b2, ?_, ?_, hSe.1.below (b1.trans (b2.mono b1.size)), hSe.2.below (b1.trans (b2.mono b1.size)), b1.trans (b2.mono b1.size), b1.size⟩
    · rw [hw2, Below.heap_alloc _ _ _ (by simp)]; exact heap_alloc_new w1 _
    · rw [hw2]; exact alloc_at _ _ (by simp)
  have HL := Lib.hid hSL; have HW := Lib.hid hw2; have HBL := Lib.hid hL
  obtain ⟨xb, hxb⟩ : ∃ xb, w1.heap.size = xb := ⟨_, rfl⟩
  have HXB := Lib.hid hxb
  rw [hxb] at HL
  clear hSL hw2 hk hi hlow b1 hjunk hb hbx hL hxb hlen
  go_wp2_with fail
  rw [← HW.out, HXB.out]
  clear HW HXB
  obtain ⟨l, hlv⟩ : ∃ l, searchOf b k = l := ⟨_, rfl⟩
  obtain ⟨N, hN⟩ : ∃ N, l.length = N := ⟨_, rfl⟩
  have HLV := Lib.hid hlv; have HN := Lib.hid hN
  have hI := implSearchBox_any b k _ _ S w2 HL.out.bat HL.out.kat HL.out.ins hF HL.out.nam HL.out.mi
  rw [hlv] at hI
  have HI := Lib.hid hI
  clear hlv hN hI
  obtain ⟨c0, c1, f0, f1⟩ := two_cells HL.out.box
  obtain ⟨e0, e1, e2, e3, e4, y0, y1, y2, y3, y4⟩ := five_cells HL.out.key
  clear f0 f1 y0 y1 y2 y3 y4
  go_wp2_with fail
  refine HI.out.mono ?_
  rintro e w3 ⟨g5, cp5, rfl, ho5, q3⟩
  have h5 := ho5.at (by have := search_len b k; rw [HLV.out] at this; have h2 := HBL.out; omega)
  rw [HN.out] at h5 ⊢
  replace HL := Lib.hid (HL.out.below q3)
  have O5 := Lib.hid h5
  have hI := specSearchBox_any b k _ _ S w3 HL.out.bat HL.out.kat HL.out.ins hF (by omega)
  rw [HLV.out] at hI
  replace HI := Lib.hid hI
  clear ho5 q3 h5 hI c0 c1 e0 e1 e2 e3 e4
  obtain ⟨c0, c1, f0, f1⟩ := two_cells HL.out.box
  obtain ⟨e0, e1, e2, e3, e4, y0, y1, y2, y3, y4⟩ := five_cells HL.out.key
  clear f0 f1 y0 y1 y2 y3 y4
  go_wp2_with fail
  refine HI.out.mono ?_
  rintro e w4 ⟨g6, cp6, rfl, ho6, q4⟩
  have h6 := ho6.at (by have := search_len b k; rw [HLV.out] at this; have h2 := HBL.out; omega)
  rw [HN.out] at h6 ⊢
  replace HL := Lib.hid (HL.out.below q4)
  replace O5 := Lib.hid (O5.out.below q4)
  have O6 := Lib.hid h6
  have hsm := sameInts_any l _ _ w4 O5.out O6.out
  have HSM := Lib.hid hsm
  clear ho6 q4 h6 hsm HI c0 c1 e0 e1 e2 e3 e4
  obtain ⟨c0, c1, f0, f1⟩ := two_cells HL.out.box
  obtain ⟨e0, e1, e2, e3, e4, y0, y1, y2, y3, y4⟩ := five_cells HL.out.key
  clear f0 f1 y0 y1 y2 y3 y4
  go_wp2_with fail
  refine HSM.out.mono ?_
  rintro e w5 ⟨rfl, q5⟩
  replace HL := Lib.hid (HL.out.below q5)
  replace O5 := Lib.hid (O5.out.below q5)
  replace O6 := Lib.hid (O6.out.below q5)
  have hbv := specBoxValid_any b _ w5 HL.out.bat
  have HBV := Lib.hid hbv
  clear q5 hbv HSM c0 c1 e0 e1 e2 e3 e4
  obtain ⟨c0, c1, f0, f1⟩ := two_cells HL.out.box
  obtain ⟨e0, e1, e2, e3, e4, y0, y1, y2, y3, y4⟩ := five_cells HL.out.key
  clear f0 f1 y0 y1 y2 y3 y4
  go_wp2_with fail
  refine HBV.out.mono ?_
  rintro e w6 ⟨rfl, q6⟩
  replace HL := Lib.hid (HL.out.below q6)
  replace O5 := Lib.hid (O5.out.below q6)
  replace O6 := Lib.hid (O6.out.below q6)
  have hkv := specKeyValid_any k _ S w6 HL.out.kat HL.out.ins hF (by omega)
  have HKV := Lib.hid hkv
  clear q6 hkv HBV c0 c1 e0 e1 e2 e3 e4
  obtain ⟨c0, c1, f0, f1⟩ := two_cells HL.out.box
  obtain ⟨e0, e1, e2, e3, e4, y0, y1, y2, y3, y4⟩ := five_cells HL.out.key
  clear f0 f1 y0 y1 y2 y3 y4
  rcases hbk : bok b with _ | _
  · have hsm := sameInts_any l _ _ w6 O5.out O6.out
    have HSM := Lib.hid hsm
    clear hsm hbk
    go_wp2_with fail
    refine HSM.out.mono ?_
    rintro e w7 ⟨rfl, q7⟩
    have hf := HL.out.bel.trans (q7.mono HL.out.bel.size)
    clear q7 c0 c1 e0 e1 e2 e3 e4
    go_wp2_with fail
    go_ret
    exact ⟨rfl, hf⟩
  have HBK := Lib.hid hbk
  clear hbk
  go_wp2_with fail
  refine HKV.out.mono ?_
  rintro e w7 ⟨rfl, q7⟩
  replace HL := Lib.hid (HL.out.below q7)
  replace O5 := Lib.hid (O5.out.below q7)
  replace O6 := Lib.hid (O6.out.below q7)
  clear q7 HKV c0 c1 e0 e1 e2 e3 e4
  rcases hok : keyOk k with _ | _
  · have hsm := sameInts_any l _ _ w7 O5.out O6.out
    have HSM := Lib.hid hsm
    clear hsm hok
    go_wp2_with fail
    refine HSM.out.mono ?_
    rintro e w8 ⟨rfl, q8⟩
    have hf := HL.out.bel.trans (q8.mono HL.out.bel.size)
    clear q8
    go_wp2_with fail
    go_ret
    exact ⟨rfl, hf⟩
  have HOK := Lib.hid hok
  clear hok
  obtain ⟨c0, c1, f0, f1⟩ := two_cells HL.out.box
  obtain ⟨e0, e1, e2, e3, e4, y0, y1, y2, y3, y4⟩ := five_cells HL.out.key
  clear f0 f1 y0 y1 y2 y3 y4
  clear O6
  obtain ⟨l2, hl2⟩ : ∃ l2, searchOf b (kjoin 7 k (khas 1)) = l2 := ⟨_, rfl⟩
  obtain ⟨N2, hN2⟩ : ∃ N2, l2.length = N2 := ⟨_, rfl⟩
  obtain ⟨l3, hl3⟩ : ∃ l3, searchOf b (khas 1) = l3 := ⟨_, rfl⟩
  obtain ⟨N3, hN3⟩ : ∃ N3, l3.length = N3 := ⟨_, rfl⟩
  obtain ⟨w8, hw8⟩ : ∃ w8, w8 = w7.alloc (.cells #[.int .i64 1, .int .i64 1, .string ⟨#[]⟩, .slice none 0 0, .slice none 0 0] 29) := ⟨_, rfl⟩
  have q8 : Below w7.heap.size w7 w8 := by rw [hw8]; exact (Below.refl _ _).alloc (Nat.le_refl _) _
  have hx8 : w8.heap[w7.heap.size]? = some (.cells #[.int .i64 1, .int .i64 1, .string ⟨#[]⟩, .slice none 0 0, .slice none 0 0] 29 (0, 0)) := by rw [hw8]; exact heap_alloc_new w7 _
  obtain ⟨xk, hxk⟩ : ∃ xk, w7.heap.size = xk := ⟨_, rfl⟩
  rw [hxk] at hx8
  have HW8 := Lib.hid hw8; have HXK := Lib.hid hxk
  replace HL := Lib.hid (HL.out.below q8)
  replace O5 := Lib.hid (O5.out.below q8)
  have HX : Hid (SL w S b (.mk 1 1 ⟨#[]⟩ [] []) #[.int .i64 b.next, .slice ab L cpb] #[.int .i64 1, .int .i64 1, .string ⟨#[]⟩, .slice none 0 0, .slice none 0 0] xb xk w8) := ⟨HL.out.bat, leafAt w8 S 1 1 ⟨#[]⟩, HL.out.ins, HL.out.box, hx8, HL.out.nam, HL.out.mi, HL.out.bel, HL.out.lo⟩
  have HZ := Lib.hid (fun (W : World) (q : Below w8.heap.size w8 W) => And.intro (HL.out.below q).cells2 (And.intro (HL.out.below q).cells5 (HX.out.below q).cells5))
  have bb : Below w8.heap.size w8 w8 := Below.refl _ _
  have ZZ := HZ.out w8 bb
  clear hw8 q8 hx8 hxk
  go_wp2_with fail
  rw [HXK.out, ← HW8.out]
  clear HW8 HXK c0 c1 e0 e1 e2 e3 e4
  have hs2 := fun (W : World) (q : Below w8.heap.size w8 W) (S' : Nat → Prop) (v : Value) (hv : KeyAt W S' (kjoin 7 k (khas 1)) v) (hi : Ins S' W) => implSearchBox_any b (kjoin 7 k (khas 1)) _ v S' W (HL.out.below q).bat hv hi (Fit.two hF (Fit.leaf (by decide))) (HL.out.below q).nam (HL.out.below q).mi
  have hs3 := fun (W : World) (q : Below w8.heap.size w8 W) => implSearchBox_any b (khas 1) _ _ S W (HX.out.below q).bat (HX.out.below q).kat (HX.out.below q).ins (Fit.leaf (by decide)) (HL.out.below q).nam (HL.out.below q).mi
  rw [hl2] at hs2
  rw [hl3] at hs3
  have hlen2 := search_len b (kjoin 7 k (khas 1))
  have hlen3 := search_len b (khas 1)
  rw [hl2, hN2, HBL.out] at hlen2
  rw [hl3, hN3, HBL.out] at hlen3
  have HJ := Lib.hid (fun (W : World) (q : Below w8.heap.size w8 W) => join_any 7 k (khas 1) _ _ S W (HL.out.below q).kat (HX.out.below q).kat (HL.out.below q).ins)
  have HS2 := Lib.hid hs2; have HS3 := Lib.hid hs3; have HN2 := Lib.hid hN2; have HN3 := Lib.hid hN3; have HL2 := Lib.hid hl2; have HL3 := Lib.hid hl3
  clear hs2 hs3 hN2 hN3 hl2 hl3
  go_region_held3 (fun W => (W.cell? ⟨xb, 0, none⟩ = some (.int .i64 b.next) ∧ W.cell? ⟨xb, 1, none⟩ = some (.slice ab L cpb)) ∧ (W.cell? ⟨xb + 1, 0, none⟩ = some (.int .i64 k.kind) ∧ W.cell? ⟨xb + 1, 1, none⟩ = some (.int .i64 k.flag) ∧ W.cell? ⟨xb + 1, 2, none⟩ = some (.string k.text) ∧ W.cell? ⟨xb + 1, 3, none⟩ = some (.slice sa sn sc) ∧ W.cell? ⟨xb + 1, 4, none⟩ = some (.slice ka kn kc)) ∧ (W.cell? ⟨xk, 0, none⟩ = some (.int .i64 1) ∧ W.cell? ⟨xk, 1, none⟩ = some (.int .i64 1) ∧ W.cell? ⟨xk, 2, none⟩ = some (.string ⟨#[]⟩) ∧ W.cell? ⟨xk, 3, none⟩ = some (.slice none 0 0) ∧ W.cell? ⟨xk, 4, none⟩ = some (.slice none 0 0))) (first | exact ZZ | (go_keep; done)) (first | (go_at_call 21; refine (HJ.out _ (by first | exact bb | exact bb.drew | exact bb.drew.drew)).mono ?_; rintro e w9 ⟨gj, rfl, hgj, hkj, hij, qj⟩; replace bb := Below.trans (by first | exact bb | exact bb.drew | exact bb.drew.drew) (qj.mono (by exact bb.size)); have HKJ := Lib.hid hkj; have HIJ := Lib.hid hij; replace ZZ := HZ.out _ bb; clear hkj hij qj hgj) | (go_at_call 14; refine (HS2.out _ (by first | exact bb | exact bb.drew | exact bb.drew.drew) _ _ (HKJ.out.below HIJ.out (by first | exact Below.refl _ _ | exact (Below.refl _ _).drew | exact (Below.refl _ _).drew.drew)) (HIJ.out.below (by first | exact Below.refl _ _ | exact (Below.refl _ _).drew | exact (Below.refl _ _).drew.drew))).mono ?_; rintro e w10 ⟨g10, cp10, rfl, ho10, q10⟩; replace bb := Below.trans (by first | exact bb | exact bb.drew | exact bb.drew.drew) (q10.mono (by exact bb.size)); have HO10 := Lib.hid ho10; replace ZZ := HZ.out _ bb; clear ho10 q10))
  have h10 := HO10.out.at (by have := HN2.out; omega)
  rw [HN2.out] at h10 ⊢
  have O10 := Lib.hid h10
  obtain ⟨⟨c0, c1⟩, ⟨e0, e1, e2, e3, e4⟩, s0, s1, s2, s3, s4⟩ := ZZ
  clear h10 HO10 HJ HS2 HKJ HIJ
  go_wp2_with fail
  refine (HS3.out _ (by first | exact bb | exact bb.drew | exact below_drewN bb _)).mono ?_
  rintro e w11 ⟨g11, cp11, rfl, ho11, q11⟩
  have q11' : Below w10.heap.size w10 w11 := Below.trans (by first | exact Below.refl _ _ | exact (Below.refl _ _).drew | exact below_drewN (Below.refl _ _) _) q11
  have h11 := ho11.at (by have := HN3.out; omega)
  rw [HN3.out] at h11 ⊢
  replace bb := bb.trans (q11'.mono bb.size)
  replace HL := Lib.hid (HL.out.below bb)
  replace O5 := Lib.hid (O5.out.below bb)
  replace O10 := Lib.hid (O10.out.below q11')
  have O11 := Lib.hid h11
  clear c0 c1 e0 e1 e2 e3 e4 s0 s1 s2 s3 s4 h11 ho11 q11 q11' bb HS3 HX HZ
  go_wp2_with fail
  obtain ⟨M, hM⟩ : ∃ M, k.nodes = M := ⟨_, rfl⟩
  have hnd := fun (W : World) (h : SL w S b k #[.int .i64 b.next, .slice ab L cpb] #[.int .i64 k.kind, .int .i64 k.flag, .string k.text, .slice sa sn sc, .slice ka kn kc] xb (xb + 1) W) => lawNodes_any k _ S W h.kat h.ins (by omega)
  have hM9 : M ≤ 9 := by have := ((keyOk_split k).1 HOK.out).2; omega
  have hhas := fun (h : k.nodes + 2 ≤ 9) (i : Nat) (hi : i < b.mail.length) => or_has HBK.out HOK.out h hi
  rw [HL2.out, HL3.out, HLV.out] at hhas
  rw [hM] at hnd hhas
  have HND := Lib.hid hnd; have HHAS := Lib.hid hhas
  clear hnd hhas hM hn
  go_loopg [10] L (fun gk i wr => ∃ n : Nat, n + gk = L ∧ i = .int .i64 ((n : Int) + 1) ∧ Hid (SL w S b k #[.int .i64 b.next, .slice ab L cpb] #[.int .i64 k.kind, .int .i64 k.flag, .string k.text, .slice sa sn sc, .slice ka kn kc] xb (xb + 1) wr) ∧ Hid (IntsAt wr (.slice (some ⟨g5, 0, none⟩) N cp5) l) ∧ Hid (IntsAt wr (.slice (some ⟨g10, 0, none⟩) N2 cp10) l2) ∧ Hid (IntsAt wr (.slice (some ⟨g11, 0, none⟩) N3 cp11) l3))
  case atStart => exact ⟨0, by omega, rfl, HL.out, O5.out, O10.out, O11.out⟩
  case round =>
    clear HL O5 O10 O11
    obtain ⟨n, hn, rfl, HL, O5, O10, O11⟩ := hrel
    obtain ⟨c0, c1, f0, f1⟩ := two_cells HL.out.box
    obtain ⟨e0, e1, e2, e3, e4, y0, y1, y2, y3, y4⟩ := five_cells HL.out.key
    clear f0 f1 y0 y1 y2 y3 y4
    by_cases hlt : n < L
    · have hnI : (n : Int) + 1 ≤ (L : Int) := by omega
      have hnd := HND.out wr HL.out
      have HNC := Lib.hid hnd
      clear hnd
      by_cases h9 : M + 2 ≤ 9
      · have h9I : (M : Int) + 2 ≤ 9 := by omega
        have hh := HHAS.out h9 n (by rw [HBL.out]; exact hlt)
        obtain ⟨r, hr⟩ : ∃ r, hasB l ((n : Int) + 1) = r := ⟨_, rfl⟩
        obtain ⟨s, hs⟩ : ∃ s, hasB l3 ((n : Int) + 1) = s := ⟨_, rfl⟩
        rw [hr, hs] at hh
        have HHH := Lib.hid hh; have HR := Lib.hid hr; have HSS := Lib.hid hs
        clear hh hr hs
        go_wp2_with fail
        refine HNC.out.mono ?_
        rintro e w12 ⟨rfl, q12⟩
        replace HL := Lib.hid (HL.out.below q12)
        replace O5 := Lib.hid (O5.out.below q12)
        replace O10 := Lib.hid (O10.out.below q12)
        replace O11 := Lib.hid (O11.out.below q12)
        clear q12 HNC c0 c1 e0 e1 e2 e3 e4
        rcases r with _ | _
        all_goals rcases s with _ | _
        all_goals
          go_wp2_with (first | (go_at_call 19; (with_reducible refine Calls.mono (hasInt_at l2 ((n : Int) + 1) _ _ _ O10.out HHH.out) ?_); rintro e w' ⟨rfl, rfl⟩) | (go_at_call 19; (with_reducible refine Calls.mono (hasInt_at l ((n : Int) + 1) _ _ _ O5.out HR.out) ?_); rintro e w' ⟨rfl, rfl⟩) | (go_at_call 19; (with_reducible refine Calls.mono (hasInt_at l3 ((n : Int) + 1) _ _ _ O11.out HSS.out) ?_); rintro e w' ⟨rfl, rfl⟩))
          go_roundg (gk - 1)
          case measure => omega
          case rel => exact ⟨n + 1, by omega, by go_num, HL.out, O5.out, O10.out, O11.out⟩
      · have h9I : ¬ (M : Int) + 2 ≤ 9 := by omega
        go_wp2_with fail
        refine HNC.out.mono ?_
        rintro e w12 ⟨rfl, q12⟩
        have hf := HL.out.bel.trans (q12.mono HL.out.bel.size)
        clear q12 HNC c0 c1 e0 e1 e2 e3 e4
        go_wp2_with fail
        go_ret
        exact ⟨rfl, hf⟩
    · obtain rfl : n = L := by omega
      have hf := HL.out.bel
      have hnI : ¬ (n : Int) + 1 ≤ (n : Int) := by omega
      go_wp2_with fail
      go_ret
      exact ⟨rfl, hf⟩
end Go.Proofs.YtlkfaamjbecieaaDoor

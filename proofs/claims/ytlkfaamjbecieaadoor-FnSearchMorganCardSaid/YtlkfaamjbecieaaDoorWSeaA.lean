/- WALKS of the laws of a search: not turns and into or. -/
import Derived.Test.YtlkfaamjbecieaaDoorSWalk
namespace Go.Proofs.YtlkfaamjbecieaaDoor
open Go.RowKit
set_option linter.unusedVariables false

set_option maxRecDepth 100000 in
set_option maxHeartbeats 4000000 in
theorem fnSearchMorgan.walk (a : Option Addr) (len cap : Nat) (hl : len ≤ cap) (hm : cap ≤ maxLen) (w : World) (hSe : Sees w) (hc : CodeAt w a len) :
    Calls Tryd.prog 9 #[.slice a len cap] w fun e w' => e = .returned (.bool true) ∧ Below w.heap.size w w' := by
  by_cases hlen : 1048576 < len
  · unfold maxLen at hm
    clear hc hSe
    go_enter Tryd.func9, Tryd.ntmps9
    go_wp2_with fail
    go_ret
    exact ⟨rfl, Below.refl _ _⟩
  go_enter Tryd.func9, Tryd.ntmps9
  unfold maxLen at hm
  go_wp2_with fail
  refine (DrawSearchBox_any a len cap hl w hc).mono ?_
  clear hc
  rintro e w1 ⟨b, ab, cpb, k, S, kv, rfl, hb, hk, hi, hlow, hF, hn, b1⟩
  obtain ⟨sa, sn, sc, ka, kn, kc, rfl, hjunk⟩ := hk.open
  have hbx := hb.box
  have hl10 := hb.1.2.2
  have hcp : b.mail.length ≤ cpb := by
    obtain ⟨s', hv, x, n', c', hs, h1, h2, _⟩ := hbx
    simp only [Value.agg.injEq, Array.mk.injEq, List.cons.injEq, and_true] at hv
    obtain ⟨_, rfl⟩ := hv
    simp only [Value.slice.injEq] at hs
    omega
  obtain ⟨L, hL⟩ : ∃ L, b.mail.length = L := ⟨_, rfl⟩
  rw [hL] at hbx hl10 hcp ⊢
  obtain ⟨w2, hw2⟩ : ∃ w2, w2 = (w1.alloc (.cells #[.int .i64 b.next, .slice ab L cpb] 25)).alloc (.cells #[.int .i64 k.kind, .int .i64 k.flag, .string k.text, .slice sa sn sc, .slice ka kn kc] 29) := ⟨_, rfl⟩
  have hSL : SL w S b k #[.int .i64 b.next, .slice ab L cpb] #[.int .i64 k.kind, .int .i64 k.flag, .string k.text, .slice sa sn sc, .slice ka kn kc] w1.heap.size (w1.heap.size + 1) w2 := by
    have b2 : Below w1.heap.size w1 w2 := by rw [hw2]; go_grown
    refine ⟨hbx.below b2, hk.below hi b2, hi.below b2, ?_, ?_, hSe.1.below (b1.trans (b2.mono b1.size)), hSe.2.below (b1.trans (b2.mono b1.size)), b1.trans (b2.mono b1.size), b1.size⟩
    · rw [hw2, Below.heap_alloc _ _ _ (by simp)]; exact heap_alloc_new w1 _
    · rw [hw2]; exact alloc_at _ _ (by simp)
  have HL := Lib.hid hSL; have HW := Lib.hid hw2; have HBL := Lib.hid hL
  obtain ⟨xb, hxb⟩ : ∃ xb, w1.heap.size = xb := ⟨_, rfl⟩
  have HXB := Lib.hid hxb
  rw [hxb] at HL
  clear hSL hw2 hk hi hlow b1 hjunk hb hbx hL hxb hlen
  go_wp2_with fail
  rw [← HW.out, HXB.out]
  clear HW HXB
  obtain ⟨l, hlv⟩ : ∃ l, searchOf b k = l := ⟨_, rfl⟩
  obtain ⟨N, hN⟩ : ∃ N, l.length = N := ⟨_, rfl⟩
  have HLV := Lib.hid hlv; have HN := Lib.hid hN
  have hI := implSearchBox_any b k _ _ S w2 HL.out.bat HL.out.kat HL.out.ins hF HL.out.nam HL.out.mi
  rw [hlv] at hI
  have HI := Lib.hid hI
  clear hlv hN hI
  obtain ⟨c0, c1, f0, f1⟩ := two_cells HL.out.box
  obtain ⟨e0, e1, e2, e3, e4, y0, y1, y2, y3, y4⟩ := five_cells HL.out.key
  clear f0 f1 y0 y1 y2 y3 y4
  go_wp2_with fail
  refine HI.out.mono ?_
  rintro e w3 ⟨g5, cp5, rfl, ho5, q3⟩
  have h5 := ho5.at (by have := search_len b k; rw [HLV.out] at this; have h2 := HBL.out; omega)
  rw [HN.out] at h5 ⊢
  replace HL := Lib.hid (HL.out.below q3)
  have O5 := Lib.hid h5
  have hI := specSearchBox_any b k _ _ S w3 HL.out.bat HL.out.kat HL.out.ins hF (by omega)
  rw [HLV.out] at hI
  replace HI := Lib.hid hI
  clear ho5 q3 h5 hI c0 c1 e0 e1 e2 e3 e4
  obtain ⟨c0, c1, f0, f1⟩ := two_cells HL.out.box
  obtain ⟨e0, e1, e2, e3, e4, y0, y1, y2, y3, y4⟩ := five_cells HL.out.key
  clear f0 f1 y0 y1 y2 y3 y4
  go_wp2_with fail
  refine HI.out.mono ?_
  rintro e w4 ⟨g6, cp6, rfl, ho6, q4⟩
  have h6 := ho6.at (by have := search_len b k; rw [HLV.out] at this; have h2 := HBL.out; omega)
  rw [HN.out] at h6 ⊢
  replace HL := Lib.hid (HL.out.below q4)
  replace O5 := Lib.hid (O5.out.below q4)
  have O6 := Lib.hid h6
  have hsm := sameInts_any l _ _ w4 O5.out O6.out
  have HSM := Lib.hid hsm
  clear ho6 q4 h6 hsm HI c0 c1 e0 e1 e2 e3 e4
  obtain ⟨c0, c1, f0, f1⟩ := two_cells HL.out.box
  obtain ⟨e0, e1, e2, e3, e4, y0, y1, y2, y3, y4⟩ := five_cells HL.out.key
  clear f0 f1 y0 y1 y2 y3 y4
  go_wp2_with fail
  refine HSM.out.mono ?_
  rintro e w5 ⟨rfl, q5⟩
  replace HL := Lib.hid (HL.out.below q5)
  replace O5 := Lib.hid (O5.out.below q5)
  replace O6 := Lib.hid (O6.out.below q5)
  have hbv := specBoxValid_any b _ w5 HL.out.bat
  have HBV := Lib.hid hbv
  clear q5 hbv HSM c0 c1 e0 e1 e2 e3 e4
  obtain ⟨c0, c1, f0, f1⟩ := two_cells HL.out.box
  obtain ⟨e0, e1, e2, e3, e4, y0, y1, y2, y3, y4⟩ := five_cells HL.out.key
  clear f0 f1 y0 y1 y2 y3 y4
  go_wp2_with fail
  refine HBV.out.mono ?_
  rintro e w6 ⟨rfl, q6⟩
  replace HL := Lib.hid (HL.out.below q6)
  replace O5 := Lib.hid (O5.out.below q6)
  replace O6 := Lib.hid (O6.out.below q6)
  have hkv := specKeyValid_any k _ S w6 HL.out.kat HL.out.ins hF (by omega)
  have HKV := Lib.hid hkv
  clear q6 hkv HBV c0 c1 e0 e1 e2 e3 e4
  obtain ⟨c0, c1, f0, f1⟩ := two_cells HL.out.box
  obtain ⟨e0, e1, e2, e3, e4, y0, y1, y2, y3, y4⟩ := five_cells HL.out.key
  clear f0 f1 y0 y1 y2 y3 y4
  rcases hbk : bok b with _ | _
  · have hsm := sameInts_any l _ _ w6 O5.out O6.out
    have HSM := Lib.hid hsm
    clear hsm hbk
    go_wp2_with fail
    refine HSM.out.mono ?_
    rintro e w7 ⟨rfl, q7⟩
    have hf := HL.out.bel.trans (q7.mono HL.out.bel.size)
    clear q7 c0 c1 e0 e1 e2 e3 e4
    go_wp2_with fail
    go_ret
    exact ⟨rfl, hf⟩
  have HBK := Lib.hid hbk
  clear hbk
  go_wp2_with fail
  refine HKV.out.mono ?_
  rintro e w7 ⟨rfl, q7⟩
  replace HL := Lib.hid (HL.out.below q7)
  replace O5 := Lib.hid (O5.out.below q7)
  replace O6 := Lib.hid (O6.out.below q7)
  clear q7 HKV c0 c1 e0 e1 e2 e3 e4
  rcases hok : keyOk k with _ | _
  · have hsm := sameInts_any l _ _ w7 O5.out O6.out
    have HSM := Lib.hid hsm
    clear hsm hok
    go_wp2_with fail
    refine HSM.out.mono ?_
    rintro e w8 ⟨rfl, q8⟩
    have hf := HL.out.bel.trans (q8.mono HL.out.bel.size)
    clear q8
    go_wp2_with fail
    go_ret
    exact ⟨rfl, hf⟩
  have HOK := Lib.hid hok
  clear hok
  obtain ⟨c0, c1, f0, f1⟩ := two_cells HL.out.box
  obtain ⟨e0, e1, e2, e3, e4, y0, y1, y2, y3, y4⟩ := five_cells HL.out.key
  clear f0 f1 y0 y1 y2 y3 y4
  clear O6
  have hFa : kall.Fit := Fit.leaf (by decide)
  have hj1 := join_any 6 k kall _ _ S w7 HL.out.kat (leafAt w7 S 0 0 ⟨#[]⟩) HL.out.ins
  have HJ1 := Lib.hid hj1
  clear hj1 O5
  go_wp2_with fail
  refine HJ1.out.mono ?_
  rintro e w8 ⟨gj, rfl, hgj, hkj, hij, q8⟩
  replace HL := Lib.hid (HL.out.below q8)
  obtain ⟨w9, hw9⟩ : ∃ w9, w9 = (w8.alloc (.cells #[.int .i64 6, .int .i64 0, .string ⟨#[]⟩, .slice none 0 0, .slice (some ⟨gj, 0, none⟩) 2 2] 29)).alloc (.cells #[.int .i64 5, .int .i64 0, .string ⟨#[]⟩, .slice none 0 0, .slice (some ⟨w8.heap.size, 0, none⟩) 1 1] 29) := ⟨_, rfl⟩
  have q9 : Below w8.heap.size w8 w9 := by rw [hw9]; go_grown
  have hv9 : w9.heap[w8.heap.size]? = some (.cells #[.int .i64 6, .int .i64 0, .string ⟨#[]⟩, .slice none 0 0, .slice (some ⟨gj, 0, none⟩) 2 2] 29 (0, 0)) := by rw [hw9, Below.heap_alloc _ _ _ (by simp)]; exact heap_alloc_new w8 _
  have hx9 : w9.heap[w8.heap.size + 1]? = some (.cells #[.int .i64 5, .int .i64 0, .string ⟨#[]⟩, .slice none 0 0, .slice (some ⟨w8.heap.size, 0, none⟩) 1 1] 29 (0, 0)) := by rw [hw9]; exact alloc_at _ _ (by simp)
  obtain ⟨xv, hxv⟩ : ∃ xv, w8.heap.size = xv := ⟨_, rfl⟩
  rw [hxv] at hv9 hx9 hw9
  replace HL := Lib.hid (HL.out.below q9)
  have HX : Hid (SL w (fun j => (S j ∨ j = gj) ∨ j = xv) b (knot (kjoin 6 k kall)) #[.int .i64 b.next, .slice ab L cpb] #[.int .i64 5, .int .i64 0, .string ⟨#[]⟩, .slice none 0 0, .slice (some ⟨xv, 0, none⟩) 1 1] xb (xv + 1) w9) := ⟨HL.out.bat, KeyAt.one (hkj.below hij q9) hv9, (hij.below q9).add (lt_of_block hv9), HL.out.box, hx9, HL.out.nam, HL.out.mi, HL.out.bel, HL.out.lo⟩
  have HW9 := Lib.hid hw9; have HXV := Lib.hid hxv
  clear hw9 q9 hv9 hx9 hxv hgj hkj hij q8 c0 c1 e0 e1 e2 e3 e4 HJ1
  go_upto_region 9 with fail
  rw [HXV.out, ← HW9.out]
  obtain ⟨w10, hw10⟩ : ∃ w10, w10 = (w9.alloc (.cells #[.int .i64 k.kind, .int .i64 k.flag, .string k.text, .slice sa sn sc, .slice ka kn kc] 29)).alloc (.cells #[.int .i64 0, .int .i64 0, .string ⟨#[]⟩, .slice none 0 0, .slice none 0 0] 29) := ⟨_, rfl⟩
  have q10 : Below w9.heap.size w9 w10 := by rw [hw10]; go_grown
  have hu10 : w10.heap[w9.heap.size]? = some (.cells #[.int .i64 k.kind, .int .i64 k.flag, .string k.text, .slice sa sn sc, .slice ka kn kc] 29 (0, 0)) := by rw [hw10, Below.heap_alloc _ _ _ (by simp)]; exact heap_alloc_new w9 _
  have hv10 : w10.heap[w9.heap.size + 1]? = some (.cells #[.int .i64 0, .int .i64 0, .string ⟨#[]⟩, .slice none 0 0, .slice none 0 0] 29 (0, 0)) := by rw [hw10]; exact alloc_at _ _ (by simp)
  obtain ⟨xu, hxu⟩ : ∃ xu, w9.heap.size = xu := ⟨_, rfl⟩
  rw [hxu] at hu10 hv10
  obtain ⟨e0, e1, e2, e3, e4⟩ := HL.out.cells5
  replace HL := Lib.hid (HL.out.below q10)
  replace HX := Lib.hid (HX.out.below q10)
  have ha1 : KeyAt w10 (fun j => (S j ∨ j = xu) ∨ j = xu + 1) (knot k) (.agg #[.int .i64 5, .int .i64 0, .string ⟨#[]⟩, .slice none 0 0, .slice (some ⟨xu, 0, none⟩) 1 1]) := (KeyAt.one HL.out.kat hu10).more (fun j hj => .inl hj)
  have ha2 : KeyAt w10 (fun j => (S j ∨ j = xu) ∨ j = xu + 1) (knot kall) (.agg #[.int .i64 5, .int .i64 0, .string ⟨#[]⟩, .slice none 0 0, .slice (some ⟨xu + 1, 0, none⟩) 1 1]) := (KeyAt.one (leafAt w10 S 0 0 ⟨#[]⟩) hv10).more (fun j hj => by rcases hj with hj | hj; exact .inl (.inl hj); exact .inr hj)
  have ha3 : Ins (fun j => (S j ∨ j = xu) ∨ j = xu + 1) w10 := (HL.out.ins.add (lt_of_block hu10)).add (lt_of_block hv10)
  have hj2 := join_any 7 (knot k) (knot kall) _ _ _ w10 ha1 ha2 ha3
  have HJ2 := Lib.hid hj2; have HW10 := Lib.hid hw10; have HXU := Lib.hid hxu
  clear hj2 ha1 ha2 ha3 hw10 hxu hu10 hv10 q10
  go_wp2_with fail
  rw [HXU.out, ← HW10.out]
  refine HJ2.out.mono ?_
  rintro e w11 ⟨gi, rfl, hgi, hki, hii, q11⟩
  obtain ⟨w12, hw12⟩ : ∃ w12, w12 = w11.alloc (.cells #[.int .i64 7, .int .i64 0, .string ⟨#[]⟩, .slice none 0 0, .slice (some ⟨gi, 0, none⟩) 2 2] 29) := ⟨_, rfl⟩
  have q12 : Below w11.heap.size w11 w12 := by rw [hw12]; exact (Below.refl _ _).alloc (Nat.le_refl _) _
  have hy12 : w12.heap[w11.heap.size]? = some (.cells #[.int .i64 7, .int .i64 0, .string ⟨#[]⟩, .slice none 0 0, .slice (some ⟨gi, 0, none⟩) 2 2] 29 (0, 0)) := by rw [hw12]; exact heap_alloc_new w11 _
  obtain ⟨xy, hxy⟩ : ∃ xy, w11.heap.size = xy := ⟨_, rfl⟩
  rw [hxy] at hy12
  replace HL := Lib.hid ((HL.out.below q11).below q12)
  replace HX := Lib.hid ((HX.out.below q11).below q12)
  obtain ⟨S3, hS3⟩ : ∃ S3 : Nat → Prop, S3 = (fun j => ((S j ∨ j = xu) ∨ j = xu + 1) ∨ j = gi) := ⟨_, rfl⟩
  rw [← hS3] at hki hii
  have HY : Hid (SL w S3 b (kjoin 7 (knot k) (knot kall)) #[.int .i64 b.next, .slice ab L cpb] #[.int .i64 7, .int .i64 0, .string ⟨#[]⟩, .slice none 0 0, .slice (some ⟨gi, 0, none⟩) 2 2] xb xy w12) := ⟨HL.out.bat, hki.below hii q12, hii.below q12, HL.out.box, hy12, HL.out.nam, HL.out.mi, HL.out.bel, HL.out.lo⟩
  have HW12 := Lib.hid hw12; have HXY := Lib.hid hxy
  have hF2 : (kjoin 7 (knot k) (knot kall)).Fit := Fit.two (Fit.one hF) (Fit.one hFa)
  have hF3 : (knot (kjoin 6 k kall)).Fit := Fit.one (Fit.two hF hFa)
  have hkv := implKeyValid_any (kjoin 7 (knot k) (knot kall)) _ _ w12 HY.out.kat HY.out.ins hF2 HY.out.nam
  have HKV := Lib.hid hkv
  clear hw12 q12 hy12 hxy hgi hki hii q11 hS3 HJ2 HW10 HXU hkv e0 e1 e2 e3 e4
  go_upto_region 10 with fail
  rw [HXY.out, ← HW12.out]
  obtain ⟨s0, s1, s2, s3, s4⟩ := HY.out.cells5
  clear HXY HW12
  go_wp2_with fail
  refine HKV.out.mono ?_
  rintro e w13 ⟨rfl, q13⟩
  replace HX := Lib.hid (HX.out.below q13)
  replace HY := Lib.hid (HY.out.below q13)
  clear q13 s0 s1 s2 s3 s4 HKV HL
  obtain ⟨l2, hl2⟩ : ∃ l2, searchOf b (kjoin 7 (knot k) (knot kall)) = l2 := ⟨_, rfl⟩
  have n2 : l2.length ≤ 10 := by have := search_len b (kjoin 7 (knot k) (knot kall)); rw [hl2, HBL.out] at this; omega
  have hsy := fun (W : World) (q : Below w13.heap.size w13 W) => implSearchBox_any b (kjoin 7 (knot k) (knot kall)) _ _ _ W (HY.out.below q).bat (HY.out.below q).kat (HY.out.below q).ins hF2 (HY.out.below q).nam (HY.out.below q).mi
  rw [hl2] at hsy
  have HSY := Lib.hid hsy
  rcases hy : keyOk (kjoin 7 (knot k) (knot kall)) with _ | _
  · have hnil : l2 = [] := by rw [← hl2, search_no hy]
    subst hnil
    clear hl2 hsy hy
    obtain ⟨c0, c1⟩ := HY.out.cells2
    obtain ⟨s0, s1, s2, s3, s4⟩ := HY.out.cells5
    go_wp2_with fail
    refine (HSY.out _ (Below.refl _ _)).mono ?_
    rintro e w14 ⟨g14, cp14, rfl, ho14, q14⟩
    have hf := HY.out.bel.trans (q14.mono HY.out.bel.size)
    clear q14 ho14 c0 c1 s0 s1 s2 s3 s4
    go_wp2_with fail
    go_ret
    exact ⟨rfl, hf⟩
  · have hmo := morgan (b := b) HOK.out hy
    rw [hl2] at hmo
    have hsx := fun (W : World) (q : Below w13.heap.size w13 W) => implSearchBox_any b (knot (kjoin 6 k kall)) _ _ _ W (HX.out.below q).bat (HX.out.below q).kat (HX.out.below q).ins hF3 (HX.out.below q).nam (HX.out.below q).mi
    rw [hmo] at hsx
    have HSX := Lib.hid hsx
    have HZ := Lib.hid (fun (W : World) (q : Below w13.heap.size w13 W) => And.intro (HX.out.below q).cells2 (And.intro (HX.out.below q).cells5 (HY.out.below q).cells5))
    have bb : Below w13.heap.size w13 w13 := Below.refl _ _
    have ZZ := HZ.out w13 bb
    clear hl2 hsy hy hmo hsx
    go_wp2_with fail
    go_region_held3 (fun W => (W.cell? ⟨xb, 0, none⟩ = some (.int .i64 b.next) ∧ W.cell? ⟨xb, 1, none⟩ = some (.slice ab L cpb)) ∧ (W.cell? ⟨xv + 1, 0, none⟩ = some (.int .i64 5) ∧ W.cell? ⟨xv + 1, 1, none⟩ = some (.int .i64 0) ∧ W.cell? ⟨xv + 1, 2, none⟩ = some (.string ⟨#[]⟩) ∧ W.cell? ⟨xv + 1, 3, none⟩ = some (.slice none 0 0) ∧ W.cell? ⟨xv + 1, 4, none⟩ = some (.slice (some ⟨xv, 0, none⟩) 1 1)) ∧ (W.cell? ⟨xy, 0, none⟩ = some (.int .i64 7) ∧ W.cell? ⟨xy, 1, none⟩ = some (.int .i64 0) ∧ W.cell? ⟨xy, 2, none⟩ = some (.string ⟨#[]⟩) ∧ W.cell? ⟨xy, 3, none⟩ = some (.slice none 0 0) ∧ W.cell? ⟨xy, 4, none⟩ = some (.slice (some ⟨gi, 0, none⟩) 2 2))) (first | exact ZZ | (go_keep; done)) (first | (go_at_call 14; (fail_if_success (have hx := R1)); refine Calls.mono (HSX.out _ (by first | exact bb | exact bb.drew | exact bb.drew.drew)) ?_; rintro e w14 ⟨g14, cp14, rfl, ho14, q14⟩; replace bb := Below.trans (by first | exact bb | exact bb.drew | exact bb.drew.drew) (q14.mono (by exact bb.size)); replace ZZ := HZ.out _ bb; have R1 := Lib.hid (ho14.at (by omega)); clear ho14 q14) | (go_at_call 14; refine Calls.mono (HSY.out _ (by first | exact bb | exact bb.drew | exact bb.drew.drew)) ?_; rintro e w15 ⟨g15, cp15, rfl, ho15, q15⟩; replace bb := Below.trans (by first | exact bb | exact bb.drew | exact bb.drew.drew) (q15.mono (by exact bb.size)); replace ZZ := HZ.out _ bb; replace R1 := Lib.hid (R1.out.below (Below.trans (by first | exact Below.refl _ _ | exact (Below.refl _ _).drew | exact (Below.refl _ _).drew.drew) q15)); have R2 := Lib.hid (ho15.at (by omega)); clear ho15 q15) | (go_at_call 16; refine Calls.mono (sameInts_any l2 _ _ _ (R1.out.below (by first | exact Below.refl _ _ | exact (Below.refl _ _).drew | exact (Below.refl _ _).drew.drew)) (R2.out.below (by first | exact Below.refl _ _ | exact (Below.refl _ _).drew | exact (Below.refl _ _).drew.drew))) ?_; rintro e w16 ⟨rfl, q16⟩; replace bb := Below.trans (by first | exact bb | exact bb.drew | exact bb.drew.drew) (q16.mono (by exact bb.size)); replace ZZ := HZ.out _ bb; clear R1 R2 q16))
    have hf := HY.out.bel.trans (bb.mono HY.out.bel.size)
    go_wp2_with fail
    go_ret
    exact ⟨rfl, by first | exact hf | exact hf.drew | exact below_drewN hf _⟩
end Go.Proofs.YtlkfaamjbecieaaDoor

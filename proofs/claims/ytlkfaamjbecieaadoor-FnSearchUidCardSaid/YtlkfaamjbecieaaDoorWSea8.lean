/- WALKS of the laws of a search: numbers are found. -/
import Derived.Test.YtlkfaamjbecieaaDoorSWalk
namespace Go.Proofs.YtlkfaamjbecieaaDoor
open Go.RowKit
set_option linter.unusedVariables false

set_option maxRecDepth 100000 in
set_option maxHeartbeats 4000000 in
theorem fnSearchUid.walk (a : Option Addr) (len cap : Nat) (hl : len ≤ cap) (hm : cap ≤ maxLen) (a2 : Option Addr) (len2 cap2 : Nat) (hl2 : len2 ≤ cap2) (hm2 : cap2 ≤ maxLen) (w : World) (hSe : Sees w) (hc : CodeAt w a len) (hc2 : CodeAt w a2 len2) :
    Calls Tryd.prog 12 #[.slice a len cap, .slice a2 len2 cap2] w fun e w' => e = .returned (.bool true) ∧ Below w.heap.size w w' := by
  by_cases hlen : 1048576 < len
  · unfold maxLen at hm hm2
    clear hc hc2 hSe
    go_enter Tryd.func12, Tryd.ntmps12
    go_wp2_with fail
    go_ret
    exact ⟨rfl, Below.refl _ _⟩
  by_cases hlen2 : 1048576 < len2
  · unfold maxLen at hm hm2
    clear hc hc2 hSe
    go_enter Tryd.func12, Tryd.ntmps12
    go_wp2_with fail
    go_ret
    exact ⟨rfl, Below.refl _ _⟩
  go_enter Tryd.func12, Tryd.ntmps12
  unfold maxLen at hm hm2
  go_wp2_with fail
  refine (DrawSearchBox_any a len cap hl w hc).mono ?_
  clear hc
  rintro e w1 ⟨b, ab, cpb, kd, Sd, kv, rfl, hb, hkd, hi, hlow, hFd, hnd, b1⟩
  obtain ⟨sa, sn, sc, ka, kn, kc, rfl, hjunk⟩ := hkd.open
  have hbx := hb.box
  have hl10 := hb.1.2.2
  have hcp : b.mail.length ≤ cpb := by
    obtain ⟨s', hv, x, n', c', hs, h1, h2, _⟩ := hbx
    simp only [Value.agg.injEq, Array.mk.injEq, List.cons.injEq, and_true] at hv
    obtain ⟨_, rfl⟩ := hv
    simp only [Value.slice.injEq] at hs
    omega
  obtain ⟨L, hL⟩ : ∃ L, b.mail.length = L := ⟨_, rfl⟩
  rw [hL] at hbx hl10 hcp ⊢
  obtain ⟨wA, hwA⟩ : ∃ wA, wA = (w1.alloc (.cells #[.int .i64 b.next, .slice ab L cpb] 25)).alloc (.cells #[.int .i64 kd.kind, .int .i64 kd.flag, .string kd.text, .slice sa sn sc, .slice ka kn kc] 29) := ⟨_, rfl⟩
  have q2 : Below w1.heap.size w1 wA := by rw [hwA]; go_grown
  have hx2 : wA.heap[w1.heap.size]? = some (.cells #[.int .i64 b.next, .slice ab L cpb] 25 (0, 0)) := by rw [hwA, Below.heap_alloc _ _ _ (by simp)]; exact heap_alloc_new w1 _
  have b2 := b1.trans (q2.mono b1.size)
  have hb2 := hbx.below q2
  have hc3 := hc2.below b2
  have hs1 := b1.size
  obtain ⟨xb, hxb⟩ : ∃ xb, w1.heap.size = xb := ⟨_, rfl⟩
  rw [hxb] at hx2 hs1
  have HW := Lib.hid hwA; have HXB := Lib.hid hxb; have HX2 := Lib.hid hx2; have HB2 := Lib.hid hb2; have HBL := Lib.hid hL
  clear hwA hxb hkd hi hlow hFd hnd hjunk hb hbx b1 q2 hx2 hb2 hc2 hL hlen hlen2
  go_wp2_with fail
  rw [← HW.out, HXB.out]
  refine (DrawSetText_any a2 len2 cap2 hl2 wA hc3).mono ?_
  clear hc3 HW HXB
  rintro e wB ⟨sl, x, cp, S, rfl, hset, hi, hlow, hsl, q3⟩
  obtain ⟨Ms, hMs⟩ : ∃ Ms, sl.length = Ms := ⟨_, rfl⟩
  rw [hMs] at hset hsl ⊢
  obtain ⟨w2, hw2⟩ : ∃ w2, w2 = wB.alloc (.cells #[.int .i64 4, .int .i64 0, .string ⟨#[]⟩, .slice x Ms cp, .slice none 0 0] 29) := ⟨_, rfl⟩
  have q4 : Below wB.heap.size wB w2 := by rw [hw2]; exact (Below.refl _ _).alloc (Nat.le_refl _) _
  have q34 := q3.trans (q4.mono q3.size)
  have b4 := b2.trans (q34.mono b2.size)
  obtain ⟨kb, hkb⟩ : ∃ kb, wB.heap.size = kb := ⟨_, rfl⟩
  have hSL : SL w S b (kset 4 sl) #[.int .i64 b.next, .slice ab L cpb] #[.int .i64 4, .int .i64 0, .string ⟨#[]⟩, .slice x Ms cp, .slice none 0 0] xb kb w2 :=
    ⟨HB2.out.below q34, KeyAt.leaf (hset.below hi q4), hi.below q4, (q34.block _ (lt_of_block HX2.out)).trans HX2.out, by rw [hw2, ← hkb]; exact heap_alloc_new wB _, hSe.1.below b4, hSe.2.below b4, b4, hs1⟩
  have hF : (kset 4 sl).Fit := Fit.leaf (by decide)
  have hn : (kset 4 sl).nodes + 1 ≤ 32 := by rw [show (kset 4 sl).nodes = 1 from by rw [K.nodes_eq]; simp [kset, K.keys]]; omega
  obtain ⟨k, hk⟩ : ∃ k, kset 4 sl = k := ⟨_, rfl⟩
  rw [hk] at hSL hF hn
  have HL := Lib.hid hSL; have HW2 := Lib.hid hw2; have HKB := Lib.hid hkb; have HKS := Lib.hid hk
  obtain ⟨c0, c1, f0, f1⟩ := two_cells ((q3.block _ (lt_of_block HX2.out)).trans HX2.out)
  clear hSL hw2 hkb hk hset hi hlow q3 q4 q34 b4 hMs f0 f1 HB2
  go_upto_region 6 with fail
  rw [HKB.out, ← HW2.out]
  clear HW2 HKB HX2 c0 c1
  obtain ⟨l, hlv⟩ : ∃ l, searchOf b k = l := ⟨_, rfl⟩
  obtain ⟨N, hN⟩ : ∃ N, l.length = N := ⟨_, rfl⟩
  have HLV := Lib.hid hlv; have HN := Lib.hid hN
  have hI := implSearchBox_any b k _ _ S w2 HL.out.bat HL.out.kat HL.out.ins hF HL.out.nam HL.out.mi
  rw [hlv] at hI
  have HI := Lib.hid hI
  clear hlv hN hI
  obtain ⟨c0, c1, f0, f1⟩ := two_cells HL.out.box
  obtain ⟨e0, e1, e2, e3, e4, y0, y1, y2, y3, y4⟩ := five_cells HL.out.key
  clear f0 f1 y0 y1 y2 y3 y4
  go_wp2_with fail
  refine HI.out.mono ?_
  rintro e w3 ⟨g5, cp5, rfl, ho5, q3⟩
  have h5 := ho5.at (by have := search_len b k; rw [HLV.out] at this; have h2 := HBL.out; omega)
  rw [HN.out] at h5 ⊢
  replace HL := Lib.hid (HL.out.below q3)
  have O5 := Lib.hid h5
  have hI := specSearchBox_any b k _ _ S w3 HL.out.bat HL.out.kat HL.out.ins hF (by omega)
  rw [HLV.out] at hI
  replace HI := Lib.hid hI
  clear ho5 q3 h5 hI c0 c1 e0 e1 e2 e3 e4
  obtain ⟨c0, c1, f0, f1⟩ := two_cells HL.out.box
  obtain ⟨e0, e1, e2, e3, e4, y0, y1, y2, y3, y4⟩ := five_cells HL.out.key
  clear f0 f1 y0 y1 y2 y3 y4
  go_wp2_with fail
  refine HI.out.mono ?_
  rintro e w4 ⟨g6, cp6, rfl, ho6, q4⟩
  have h6 := ho6.at (by have := search_len b k; rw [HLV.out] at this; have h2 := HBL.out; omega)
  rw [HN.out] at h6 ⊢
  replace HL := Lib.hid (HL.out.below q4)
  replace O5 := Lib.hid (O5.out.below q4)
  have O6 := Lib.hid h6
  have hsm := sameInts_any l _ _ w4 O5.out O6.out
  have HSM := Lib.hid hsm
  clear ho6 q4 h6 hsm HI c0 c1 e0 e1 e2 e3 e4
  obtain ⟨c0, c1, f0, f1⟩ := two_cells HL.out.box
  obtain ⟨e0, e1, e2, e3, e4, y0, y1, y2, y3, y4⟩ := five_cells HL.out.key
  clear f0 f1 y0 y1 y2 y3 y4
  go_wp2_with fail
  refine HSM.out.mono ?_
  rintro e w5 ⟨rfl, q5⟩
  replace HL := Lib.hid (HL.out.below q5)
  replace O5 := Lib.hid (O5.out.below q5)
  replace O6 := Lib.hid (O6.out.below q5)
  have hbv := specBoxValid_any b _ w5 HL.out.bat
  have HBV := Lib.hid hbv
  clear q5 hbv HSM c0 c1 e0 e1 e2 e3 e4
  obtain ⟨c0, c1, f0, f1⟩ := two_cells HL.out.box
  obtain ⟨e0, e1, e2, e3, e4, y0, y1, y2, y3, y4⟩ := five_cells HL.out.key
  clear f0 f1 y0 y1 y2 y3 y4
  go_wp2_with fail
  refine HBV.out.mono ?_
  rintro e w6 ⟨rfl, q6⟩
  replace HL := Lib.hid (HL.out.below q6)
  replace O5 := Lib.hid (O5.out.below q6)
  replace O6 := Lib.hid (O6.out.below q6)
  have hkv := specKeyValid_any k _ S w6 HL.out.kat HL.out.ins hF (by omega)
  have HKV := Lib.hid hkv
  clear q6 hkv HBV c0 c1 e0 e1 e2 e3 e4
  obtain ⟨c0, c1, f0, f1⟩ := two_cells HL.out.box
  obtain ⟨e0, e1, e2, e3, e4, y0, y1, y2, y3, y4⟩ := five_cells HL.out.key
  clear f0 f1 y0 y1 y2 y3 y4
  rcases hbk : bok b with _ | _
  · have hsm := sameInts_any l _ _ w6 O5.out O6.out
    have HSM := Lib.hid hsm
    clear hsm hbk
    go_wp2_with fail
    refine HSM.out.mono ?_
    rintro e w7 ⟨rfl, q7⟩
    have hf := HL.out.bel.trans (q7.mono HL.out.bel.size)
    clear q7 c0 c1 e0 e1 e2 e3 e4
    go_wp2_with fail
    go_ret
    exact ⟨rfl, hf⟩
  have HBK := Lib.hid hbk
  clear hbk
  go_wp2_with fail
  refine HKV.out.mono ?_
  rintro e w7 ⟨rfl, q7⟩
  replace HL := Lib.hid (HL.out.below q7)
  replace O5 := Lib.hid (O5.out.below q7)
  replace O6 := Lib.hid (O6.out.below q7)
  clear q7 HKV c0 c1 e0 e1 e2 e3 e4
  rcases hok : keyOk k with _ | _
  · have hsm := sameInts_any l _ _ w7 O5.out O6.out
    have HSM := Lib.hid hsm
    clear hsm hok
    go_wp2_with fail
    refine HSM.out.mono ?_
    rintro e w8 ⟨rfl, q8⟩
    have hf := HL.out.bel.trans (q8.mono HL.out.bel.size)
    clear q8
    go_wp2_with fail
    go_ret
    exact ⟨rfl, hf⟩
  have HOK := Lib.hid hok
  clear hok
  obtain ⟨c0, c1, f0, f1⟩ := two_cells HL.out.box
  obtain ⟨e0, e1, e2, e3, e4, y0, y1, y2, y3, y4⟩ := five_cells HL.out.key
  clear f0 f1 y0 y1 y2 y3 y4
  have hso : setOk sl = true := by rw [← kset_ok (.inr rfl) sl, HKS.out]; exact HOK.out
  by_cases hL0 : L = 0
  · subst hL0
    have hsm := sameInts_any l _ _ w7 O5.out O6.out
    have HSM := Lib.hid hsm
    clear hsm
    go_wp2_with fail
    refine HSM.out.mono ?_
    rintro e w8 ⟨rfl, q8⟩
    have hf := HL.out.bel.trans (q8.mono HL.out.bel.size)
    clear q8 c0 c1 e0 e1 e2 e3 e4
    go_wp2_with fail
    go_ret
    exact ⟨rfl, hf⟩
  have hL0' : ((L : Int) == 0) = false := beq_eq_false_iff_ne.2 (by omega)
  have hL1 : L - 1 < b.mail.length := by rw [HBL.out]; omega
  obtain ⟨gm, off, rfl, k0, k1, k2⟩ := HL.out.bat.msg (L - 1) _ (List.getElem?_eq_getElem hL1)
  have hlu : (b.mail[L - 1]'hL1).uid = lastUid b := by
    unfold lastUid
    rw [List.getLast?_eq_getElem?, HBL.out, List.getElem?_eq_getElem hL1]
  rw [hlu] at k0
  have huf : uidsOf b (numbersOf sl (lastUid b)) = l := by rw [← HLV.out, ← HKS.out, uid_found HBK.out (by rw [HBL.out]; omega) hso]
  obtain ⟨us, hus⟩ : ∃ us, numbersOf sl (lastUid b) = us := ⟨_, rfl⟩
  have hsn := fun (W : World) (q : Below w7.heap.size w7 W) => implSetNumbers_any sl (lastUid b) _ S W (by have := (HL.out.below q).set; rw [← HKS.out] at this; exact this) (HL.out.below q).ins
  have hul := numbers_len sl (lastUid b)
  rw [hus] at huf hsn hul
  have hbu := fun (W : World) (q : Below w7.heap.size w7 W) (v : Value) (hv : IntsAt W v us) => implBoxUids_any b us _ v W (HL.out.below q).bat hv
  rw [huf] at hbu
  have HSN := Lib.hid hsn; have HBU := Lib.hid hbu
  have HZ := Lib.hid (fun (W : World) (q : Below w7.heap.size w7 W) => And.intro (HL.out.below q).cells2 ((q.cell (p := ⟨gm, off + (L - 1) * 3, none⟩) (World.block_lt_of_cell? _ _ k0)).trans k0))
  have bb : Below w7.heap.size w7 w7 := Below.refl _ _
  have ZZ := HZ.out w7 bb
  have hlN : l.length ≤ 10 := by have := search_len b k; rw [HLV.out, HBL.out] at this; omega
  have nA : ((L : Int) - 1).toNat = L - 1 := by omega
  have nE : (1 : Int) ≤ (L : Int) := by omega
  have nW : IntKind.i64.wrap ((L : Int) - 1) = (L : Int) - 1 := IntWalk.i64_in _ (by omega)
  have nC : (L : Int) - 1 < (L : Int) := by omega
  have nD : ((L - 1 : Nat) : Int) = (L : Int) - 1 := by omega
  clear hso hL0 hL1 hlu k0 k1 k2 huf hus hsn hbu O6 c0 c1
  obtain ⟨c0, c1⟩ := ZZ.1
  go_wp2_with fail
  go_region_held3 (fun W => (W.cell? ⟨xb, 0, none⟩ = some (.int .i64 b.next) ∧ W.cell? ⟨xb, 1, none⟩ = some (.slice (some ⟨gm, off, none⟩) L cpb)) ∧ W.cell? ⟨gm, off + (L - 1) * 3, none⟩ = some (.int .i64 (lastUid b))) (first | exact ZZ | (go_keep; done)) (first | (go_at_call 24; refine (HSN.out _ (by first | exact bb | exact bb.drew | exact bb.drew.drew)).mono ?_; rintro e w8 ⟨g8, cp8, rfl, ho8, q8⟩; have q8' := q8; replace bb := Below.trans (by first | exact bb | exact bb.drew | exact bb.drew.drew) (q8.mono (by exact bb.size)); have HU8 := Lib.hid (ho8.at (by omega)); replace ZZ := HZ.out _ bb; clear ho8 q8 q8') | (go_at_call 27; refine (HBU.out _ (by first | exact bb | exact bb.drew | exact bb.drew.drew) _ (HU8.out.below (by first | exact Below.refl _ _ | exact (Below.refl _ _).drew | exact (Below.refl _ _).drew.drew))).mono ?_; rintro e w9 ⟨g9, cp9, rfl, ho9, q9⟩; replace bb := Below.trans (by first | exact bb | exact bb.drew | exact bb.drew.drew) (q9.mono (by exact bb.size)); have HU9 := Lib.hid (ho9.at (by omega)); replace ZZ := HZ.out _ bb; clear ho9 q9) | (go_at_call 16; refine (sameInts_any l _ _ _ (O5.out.below (by first | exact bb | exact bb.drew | exact bb.drew.drew)) (HU9.out.below (by first | exact Below.refl _ _ | exact (Below.refl _ _).drew | exact (Below.refl _ _).drew.drew))).mono ?_; rintro e w10 ⟨rfl, q10⟩; replace bb := Below.trans (by first | exact bb | exact bb.drew | exact bb.drew.drew) (q10.mono (by exact bb.size)); replace ZZ := HZ.out _ bb; clear q10))
  have hf := HL.out.bel.trans (bb.mono HL.out.bel.size)
  go_wp2_with fail
  go_ret
  exact ⟨rfl, by first | exact hf | exact hf.drew | exact below_drewN hf _⟩
end Go.Proofs.YtlkfaamjbecieaaDoor

/- WALKS of the laws of a search: places are found. -/
import Derived.Test.YtlkfaamjbecieaaDoorSWalk
namespace Go.Proofs.YtlkfaamjbecieaaDoor
open Go.RowKit
set_option linter.unusedVariables false

set_option maxRecDepth 100000 in
set_option maxHeartbeats 4000000 in
theorem fnSearchPlace.walk (a : Option Addr) (len cap : Nat) (hl : len ≤ cap) (hm : cap ≤ maxLen) (a2 : Option Addr) (len2 cap2 : Nat) (hl2 : len2 ≤ cap2) (hm2 : cap2 ≤ maxLen) (w : World) (hSe : Sees w) (hc : CodeAt w a len) (hc2 : CodeAt w a2 len2) :
    Calls Tryd.prog 8 #[.slice a len cap, .slice a2 len2 cap2] w fun e w' => e = .returned (.bool true) ∧ Below w.heap.size w w' := by
  by_cases hlen : 1048576 < len
  · unfold maxLen at hm hm2
    clear hc hc2 hSe
    go_enter Tryd.func8, Tryd.ntmps8
    go_wp2_with fail
    go_ret
    exact ⟨rfl, Below.refl _ _⟩
  by_cases hlen2 : 1048576 < len2
  · unfold maxLen at hm hm2
    clear hc hc2 hSe
    go_enter Tryd.func8, Tryd.ntmps8
    go_wp2_with fail
    go_ret
    exact ⟨rfl, Below.refl _ _⟩
  go_enter Tryd.func8, Tryd.ntmps8
  unfold maxLen at hm hm2
  go_wp2_with fail
  refine (DrawSearchBox_any a len cap hl w hc).mono ?_
  clear hc
  rintro e w1 ⟨b, ab, cpb, kd, Sd, kv, rfl, hb, hkd, hi, hlow, hFd, hnd, b1⟩
  obtain ⟨sa, sn, sc, ka, kn, kc, rfl, hjunk⟩ := hkd.open
  have hbx := hb.box
  have hl10 := hb.1.2.2
  have hcp : b.mail.length ≤ cpb := by
    obtain ⟨s', hv, x, n', c', hs, h1, h2, _⟩ := hbx
    simp only [Value.agg.injEq, Array.mk.injEq, List.cons.injEq, and_true] at hv
    obtain ⟨_, rfl⟩ := hv
    simp only [Value.slice.injEq] at hs
    omega
  obtain ⟨L, hL⟩ : ∃ L, b.mail.length = L := ⟨_, rfl⟩
  rw [hL] at hbx hl10 hcp ⊢
  obtain ⟨wA, hwA⟩ : ∃ wA, wA = (w1.alloc (.cells #[.int .i64 b.next, .slice ab L cpb] 25)).alloc (.cells #[.int .i64 kd.kind, .int .i64 kd.flag, .string kd.text, .slice sa sn sc, .slice ka kn kc] 29) := ⟨_, rfl⟩
  have q2 : Below w1.heap.size w1 wA := by rw [hwA]; go_grown
  have hx2 : wA.heap[w1.heap.size]? = some (.cells #[.int .i64 b.next, .slice ab L cpb] 25 (0, 0)) := by rw [hwA, Below.heap_alloc _ _ _ (by simp)]; exact heap_alloc_new w1 _
  have b2 := b1.trans (q2.mono b1.size)
  have hb2 := hbx.below q2
  have hc3 := hc2.below b2
  have hs1 := b1.size
  obtain ⟨xb, hxb⟩ : ∃ xb, w1.heap.size = xb := ⟨_, rfl⟩
  rw [hxb] at hx2 hs1
  have HW := Lib.hid hwA; have HXB := Lib.hid hxb; have HX2 := Lib.hid hx2; have HB2 := Lib.hid hb2; have HBL := Lib.hid hL
  clear hwA hxb hkd hi hlow hFd hnd hjunk hb hbx b1 q2 hx2 hb2 hc2 hL hlen hlen2
  go_wp2_with fail
  rw [← HW.out, HXB.out]
  refine (DrawSetText_any a2 len2 cap2 hl2 wA hc3).mono ?_
  clear hc3 HW HXB
  rintro e wB ⟨sl, x, cp, S, rfl, hset, hi, hlow, hsl, q3⟩
  obtain ⟨Ms, hMs⟩ : ∃ Ms, sl.length = Ms := ⟨_, rfl⟩
  rw [hMs] at hset hsl ⊢
  obtain ⟨w2, hw2⟩ : ∃ w2, w2 = wB.alloc (.cells #[.int .i64 3, .int .i64 0, .string ⟨#[]⟩, .slice x Ms cp, .slice none 0 0] 29) := ⟨_, rfl⟩
  have q4 : Below wB.heap.size wB w2 := by rw [hw2]; exact (Below.refl _ _).alloc (Nat.le_refl _) _
  have q34 := q3.trans (q4.mono q3.size)
  have b4 := b2.trans (q34.mono b2.size)
  obtain ⟨kb, hkb⟩ : ∃ kb, wB.heap.size = kb := ⟨_, rfl⟩
  have hSL : SL w S b (kset 3 sl) #[.int .i64 b.next, .slice ab L cpb] #[.int .i64 3, .int .i64 0, .string ⟨#[]⟩, .slice x Ms cp, .slice none 0 0] xb kb w2 :=
    ⟨HB2.out.below q34, KeyAt.leaf (hset.below hi q4), hi.below q4, (q34.block _ (lt_of_block HX2.out)).trans HX2.out, by rw [hw2, ← hkb]; exact heap_alloc_new wB _, hSe.1.below b4, hSe.2.below b4, b4, hs1⟩
  have hF : (kset 3 sl).Fit := Fit.leaf (by decide)
  have hn : (kset 3 sl).nodes + 1 ≤ 32 := by rw [show (kset 3 sl).nodes = 1 from by rw [K.nodes_eq]; simp [kset, K.keys]]; omega
  obtain ⟨k, hk⟩ : ∃ k, kset 3 sl = k := ⟨_, rfl⟩
  rw [hk] at hSL hF hn
  have HL := Lib.hid hSL; have HW2 := Lib.hid hw2; have HKB := Lib.hid hkb; have HKS := Lib.hid hk
  obtain ⟨c0, c1, f0, f1⟩ := two_cells ((q3.block _ (lt_of_block HX2.out)).trans HX2.out)
  clear hSL hw2 hkb hk hset hi hlow q3 q4 q34 b4 hMs f0 f1 HB2
  go_upto_region 6 with fail
  rw [HKB.out, ← HW2.out]
  clear HW2 HKB HX2 c0 c1
  obtain ⟨l, hlv⟩ : ∃ l, searchOf b k = l := ⟨_, rfl⟩
  obtain ⟨N, hN⟩ : ∃ N, l.length = N := ⟨_, rfl⟩
  have HLV := Lib.hid hlv; have HN := Lib.hid hN
  have hI := implSearchBox_any b k _ _ S w2 HL.out.bat HL.out.kat HL.out.ins hF HL.out.nam HL.out.mi
  rw [hlv] at hI
  have HI := Lib.hid hI
  clear hlv hN hI
  obtain ⟨c0, c1, f0, f1⟩ := two_cells HL.out.box
  obtain ⟨e0, e1, e2, e3, e4, y0, y1, y2, y3, y4⟩ := five_cells HL.out.key
  clear f0 f1 y0 y1 y2 y3 y4
  go_wp2_with fail
  refine HI.out.mono ?_
  rintro e w3 ⟨g5, cp5, rfl, ho5, q3⟩
  have h5 := ho5.at (by have := search_len b k; rw [HLV.out] at this; have h2 := HBL.out; omega)
  rw [HN.out] at h5 ⊢
  replace HL := Lib.hid (HL.out.below q3)
  have O5 := Lib.hid h5
  have hI := specSearchBox_any b k _ _ S w3 HL.out.bat HL.out.kat HL.out.ins hF (by omega)
  rw [HLV.out] at hI
  replace HI := Lib.hid hI
  clear ho5 q3 h5 hI c0 c1 e0 e1 e2 e3 e4
  obtain ⟨c0, c1, f0, f1⟩ := two_cells HL.out.box
  obtain ⟨e0, e1, e2, e3, e4, y0, y1, y2, y3, y4⟩ := five_cells HL.out.key
  clear f0 f1 y0 y1 y2 y3 y4
  go_wp2_with fail
  refine HI.out.mono ?_
  rintro e w4 ⟨g6, cp6, rfl, ho6, q4⟩
  have h6 := ho6.at (by have := search_len b k; rw [HLV.out] at this; have h2 := HBL.out; omega)
  rw [HN.out] at h6 ⊢
  replace HL := Lib.hid (HL.out.below q4)
  replace O5 := Lib.hid (O5.out.below q4)
  have O6 := Lib.hid h6
  have hsm := sameInts_any l _ _ w4 O5.out O6.out
  have HSM := Lib.hid hsm
  clear ho6 q4 h6 hsm HI c0 c1 e0 e1 e2 e3 e4
  obtain ⟨c0, c1, f0, f1⟩ := two_cells HL.out.box
  obtain ⟨e0, e1, e2, e3, e4, y0, y1, y2, y3, y4⟩ := five_cells HL.out.key
  clear f0 f1 y0 y1 y2 y3 y4
  go_wp2_with fail
  refine HSM.out.mono ?_
  rintro e w5 ⟨rfl, q5⟩
  replace HL := Lib.hid (HL.out.below q5)
  replace O5 := Lib.hid (O5.out.below q5)
  replace O6 := Lib.hid (O6.out.below q5)
  have hbv := specBoxValid_any b _ w5 HL.out.bat
  have HBV := Lib.hid hbv
  clear q5 hbv HSM c0 c1 e0 e1 e2 e3 e4
  obtain ⟨c0, c1, f0, f1⟩ := two_cells HL.out.box
  obtain ⟨e0, e1, e2, e3, e4, y0, y1, y2, y3, y4⟩ := five_cells HL.out.key
  clear f0 f1 y0 y1 y2 y3 y4
  go_wp2_with fail
  refine HBV.out.mono ?_
  rintro e w6 ⟨rfl, q6⟩
  replace HL := Lib.hid (HL.out.below q6)
  replace O5 := Lib.hid (O5.out.below q6)
  replace O6 := Lib.hid (O6.out.below q6)
  have hkv := specKeyValid_any k _ S w6 HL.out.kat HL.out.ins hF (by omega)
  have HKV := Lib.hid hkv
  clear q6 hkv HBV c0 c1 e0 e1 e2 e3 e4
  obtain ⟨c0, c1, f0, f1⟩ := two_cells HL.out.box
  obtain ⟨e0, e1, e2, e3, e4, y0, y1, y2, y3, y4⟩ := five_cells HL.out.key
  clear f0 f1 y0 y1 y2 y3 y4
  rcases hbk : bok b with _ | _
  · have hsm := sameInts_any l _ _ w6 O5.out O6.out
    have HSM := Lib.hid hsm
    clear hsm hbk
    go_wp2_with fail
    refine HSM.out.mono ?_
    rintro e w7 ⟨rfl, q7⟩
    have hf := HL.out.bel.trans (q7.mono HL.out.bel.size)
    clear q7 c0 c1 e0 e1 e2 e3 e4
    go_wp2_with fail
    go_ret
    exact ⟨rfl, hf⟩
  have HBK := Lib.hid hbk
  clear hbk
  go_wp2_with fail
  refine HKV.out.mono ?_
  rintro e w7 ⟨rfl, q7⟩
  replace HL := Lib.hid (HL.out.below q7)
  replace O5 := Lib.hid (O5.out.below q7)
  replace O6 := Lib.hid (O6.out.below q7)
  clear q7 HKV c0 c1 e0 e1 e2 e3 e4
  rcases hok : keyOk k with _ | _
  · have hsm := sameInts_any l _ _ w7 O5.out O6.out
    have HSM := Lib.hid hsm
    clear hsm hok
    go_wp2_with fail
    refine HSM.out.mono ?_
    rintro e w8 ⟨rfl, q8⟩
    have hf := HL.out.bel.trans (q8.mono HL.out.bel.size)
    clear q8
    go_wp2_with fail
    go_ret
    exact ⟨rfl, hf⟩
  have HOK := Lib.hid hok
  clear hok
  obtain ⟨c0, c1, f0, f1⟩ := two_cells HL.out.box
  obtain ⟨e0, e1, e2, e3, e4, y0, y1, y2, y3, y4⟩ := five_cells HL.out.key
  clear f0 f1 y0 y1 y2 y3 y4
  have hso : setOk sl = true := by rw [← kset_ok (.inl rfl) sl, HKS.out]; exact HOK.out
  have hpf : numbersOf sl L = l := by rw [← HLV.out, ← HKS.out, place_found HBK.out hso, HBL.out]
  have hsn := implSetNumbers_any sl (L : Int) _ S w7 (by have := HL.out.set; rw [← HKS.out] at this; exact this) HL.out.ins
  rw [hpf] at hsn
  have HSN := Lib.hid hsn
  clear hso hpf hsn O6
  go_wp2_with fail
  refine HSN.out.mono ?_
  rintro e w8 ⟨g8, cp8, rfl, ho8, q8⟩
  have h8 := ho8.at (by have := search_len b k; rw [HLV.out, HBL.out] at this; omega)
  rw [HN.out] at h8 ⊢
  have hsm := sameInts_any l _ _ w8 (O5.out.below q8) h8
  have HSM := Lib.hid hsm
  have hf := HL.out.bel.trans (q8.mono HL.out.bel.size)
  clear ho8 q8 h8 hsm HSN c0 c1 e0 e1 e2 e3 e4
  go_wp2_with fail
  refine HSM.out.mono ?_
  rintro e w9 ⟨rfl, q9⟩
  have hf9 := hf.trans (q9.mono hf.size)
  clear q9 HSM
  go_wp2_with fail
  go_ret
  exact ⟨rfl, hf9⟩
end Go.Proofs.YtlkfaamjbecieaaDoor

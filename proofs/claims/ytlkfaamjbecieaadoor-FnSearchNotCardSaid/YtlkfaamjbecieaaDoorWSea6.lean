/- WALKS of the laws of a search: not finds the others. -/
import Derived.Test.YtlkfaamjbecieaaDoorSWalk
namespace Go.Proofs.YtlkfaamjbecieaaDoor
open Go.RowKit
set_option linter.unusedVariables false

set_option maxRecDepth 100000 in
set_option maxHeartbeats 4000000 in
theorem fnSearchNot.walk (a : Option Addr) (len cap : Nat) (hl : len ≤ cap) (hm : cap ≤ maxLen) (w : World) (hSe : Sees w) (hc : CodeAt w a len) :
    Calls Tryd.prog 11 #[.slice a len cap] w fun e w' => e = .returned (.bool true) ∧ Below w.heap.size w w' := by
  by_cases hlen : 1048576 < len
  · unfold maxLen at hm
    clear hc hSe
    go_enter Tryd.func11, Tryd.ntmps11
    go_wp2_with fail
    go_ret
    exact ⟨rfl, Below.refl _ _⟩
  go_enter Tryd.func11, Tryd.ntmps11
  unfold maxLen at hm
  go_wp2_with fail
  refine (DrawSearchBox_any a len cap hl w hc).mono ?_
  clear hc
  rintro e w1 ⟨b, ab, cpb, k, S, kv, rfl, hb, hk, hi, hlow, hF, hn, b1⟩
  obtain ⟨sa, sn, sc, ka, kn, kc, rfl, hjunk⟩ := hk.open
  have hbx := hb.box
  have hl10 := hb.1.2.2
  have hcp : b.mail.length ≤ cpb := by
    obtain ⟨s', hv, x, n', c', hs, h1, h2, _⟩ := hbx
    simp only [Value.agg.injEq, Array.mk.injEq, List.cons.injEq, and_true] at hv
    obtain ⟨_, rfl⟩ := hv
    simp only [Value.slice.injEq] at hs
    omega
  obtain ⟨L, hL⟩ : ∃ L, b.mail.length = L := ⟨_, rfl⟩
  rw [hL] at hbx hl10 hcp ⊢
  obtain ⟨w2, hw2⟩ : ∃ w2, w2 = (w1.alloc (.cells #[.int .i64 b.next, .slice ab L cpb] 25)).alloc (.cells #[.int .i64 k.kind, .int .i64 k.flag, .string k.text, .slice sa sn sc, .slice ka kn kc] 29) := ⟨_, rfl⟩
  have hSL : SL w S b k #[.int .i64 b.next, .slice ab L cpb] #[.int .i64 k.kind, .int .i64 k.flag, .string k.text, .slice sa sn sc, .slice ka kn kc] w1.heap.size (w1.heap.size + 1) w2 := by
    have b2 : Below w1.heap.size w1 w2 := by rw [hw2]; go_grown
    refine ⟨hbx.below b2, hk.below hi b2, hi.below b2, ?_, ?_, hSe.1.below (b1.trans (b2.mono b1.size)), hSe.2.below (b1.trans (b2.mono b1.size)), b1.trans (b2.mono b1.size), b1.size⟩
    · rw [hw2, Below.heap_alloc _ _ _ (by simp)]; exact heap_alloc_new w1 _
    · rw [hw2]; exact alloc_at _ _ (by simp)
  have HL := Lib.hid hSL; have HW := Lib.hid hw2; have HBL := Lib.hid hL
  obtain ⟨xb, hxb⟩ : ∃ xb, w1.heap.size = xb := ⟨_, rfl⟩
  have HXB := Lib.hid hxb
  rw [hxb] at HL
  clear hSL hw2 hk hi hlow b1 hjunk hb hbx hL hxb hlen
  go_wp2_with fail
  rw [← HW.out, HXB.out]
  clear HW HXB
  obtain ⟨l, hlv⟩ : ∃ l, searchOf b k = l := ⟨_, rfl⟩
  obtain ⟨N, hN⟩ : ∃ N, l.length = N := ⟨_, rfl⟩
  have HLV := Lib.hid hlv; have HN := Lib.hid hN
  have hI := implSearchBox_any b k _ _ S w2 HL.out.bat HL.out.kat HL.out.ins hF HL.out.nam HL.out.mi
  rw [hlv] at hI
  have HI := Lib.hid hI
  clear hlv hN hI
  obtain ⟨c0, c1, f0, f1⟩ := two_cells HL.out.box
  obtain ⟨e0, e1, e2, e3, e4, y0, y1, y2, y3, y4⟩ := five_cells HL.out.key
  clear f0 f1 y0 y1 y2 y3 y4
  go_wp2_with fail
  refine HI.out.mono ?_
  rintro e w3 ⟨g5, cp5, rfl, ho5, q3⟩
  have h5 := ho5.at (by have := search_len b k; rw [HLV.out] at this; have h2 := HBL.out; omega)
  rw [HN.out] at h5 ⊢
  replace HL := Lib.hid (HL.out.below q3)
  have O5 := Lib.hid h5
  have hI := specSearchBox_any b k _ _ S w3 HL.out.bat HL.out.kat HL.out.ins hF (by omega)
  rw [HLV.out] at hI
  replace HI := Lib.hid hI
  clear ho5 q3 h5 hI c0 c1 e0 e1 e2 e3 e4
  obtain ⟨c0, c1, f0, f1⟩ := two_cells HL.out.box
  obtain ⟨e0, e1, e2, e3, e4, y0, y1, y2, y3, y4⟩ := five_cells HL.out.key
  clear f0 f1 y0 y1 y2 y3 y4
  go_wp2_with fail
  refine HI.out.mono ?_
  rintro e w4 ⟨g6, cp6, rfl, ho6, q4⟩
  have h6 := ho6.at (by have := search_len b k; rw [HLV.out] at this; have h2 := HBL.out; omega)
  rw [HN.out] at h6 ⊢
  replace HL := Lib.hid (HL.out.below q4)
  replace O5 := Lib.hid (O5.out.below q4)
  have O6 := Lib.hid h6
  have hsm := sameInts_any l _ _ w4 O5.out O6.out
  have HSM := Lib.hid hsm
  clear ho6 q4 h6 hsm HI c0 c1 e0 e1 e2 e3 e4
  obtain ⟨c0, c1, f0, f1⟩ := two_cells HL.out.box
  obtain ⟨e0, e1, e2, e3, e4, y0, y1, y2, y3, y4⟩ := five_cells HL.out.key
  clear f0 f1 y0 y1 y2 y3 y4
  go_wp2_with fail
  refine HSM.out.mono ?_
  rintro e w5 ⟨rfl, q5⟩
  replace HL := Lib.hid (HL.out.below q5)
  replace O5 := Lib.hid (O5.out.below q5)
  replace O6 := Lib.hid (O6.out.below q5)
  have hbv := specBoxValid_any b _ w5 HL.out.bat
  have HBV := Lib.hid hbv
  clear q5 hbv HSM c0 c1 e0 e1 e2 e3 e4
  obtain ⟨c0, c1, f0, f1⟩ := two_cells HL.out.box
  obtain ⟨e0, e1, e2, e3, e4, y0, y1, y2, y3, y4⟩ := five_cells HL.out.key
  clear f0 f1 y0 y1 y2 y3 y4
  go_wp2_with fail
  refine HBV.out.mono ?_
  rintro e w6 ⟨rfl, q6⟩
  replace HL := Lib.hid (HL.out.below q6)
  replace O5 := Lib.hid (O5.out.below q6)
  replace O6 := Lib.hid (O6.out.below q6)
  have hkv := specKeyValid_any k _ S w6 HL.out.kat HL.out.ins hF (by omega)
  have HKV := Lib.hid hkv
  clear q6 hkv HBV c0 c1 e0 e1 e2 e3 e4
  obtain ⟨c0, c1, f0, f1⟩ := two_cells HL.out.box
  obtain ⟨e0, e1, e2, e3, e4, y0, y1, y2, y3, y4⟩ := five_cells HL.out.key
  clear f0 f1 y0 y1 y2 y3 y4
  rcases hbk : bok b with _ | _
  · have hsm := sameInts_any l _ _ w6 O5.out O6.out
    have HSM := Lib.hid hsm
    clear hsm hbk
    go_wp2_with fail
    refine HSM.out.mono ?_
    rintro e w7 ⟨rfl, q7⟩
    have hf := HL.out.bel.trans (q7.mono HL.out.bel.size)
    clear q7 c0 c1 e0 e1 e2 e3 e4
    go_wp2_with fail
    go_ret
    exact ⟨rfl, hf⟩
  have HBK := Lib.hid hbk
  clear hbk
  go_wp2_with fail
  refine HKV.out.mono ?_
  rintro e w7 ⟨rfl, q7⟩
  replace HL := Lib.hid (HL.out.below q7)
  replace O5 := Lib.hid (O5.out.below q7)
  replace O6 := Lib.hid (O6.out.below q7)
  clear q7 HKV c0 c1 e0 e1 e2 e3 e4
  rcases hok : keyOk k with _ | _
  · have hsm := sameInts_any l _ _ w7 O5.out O6.out
    have HSM := Lib.hid hsm
    clear hsm hok
    go_wp2_with fail
    refine HSM.out.mono ?_
    rintro e w8 ⟨rfl, q8⟩
    have hf := HL.out.bel.trans (q8.mono HL.out.bel.size)
    clear q8
    go_wp2_with fail
    go_ret
    exact ⟨rfl, hf⟩
  have HOK := Lib.hid hok
  clear hok
  obtain ⟨c0, c1, f0, f1⟩ := two_cells HL.out.box
  obtain ⟨e0, e1, e2, e3, e4, y0, y1, y2, y3, y4⟩ := five_cells HL.out.key
  clear f0 f1 y0 y1 y2 y3 y4
  clear O6
  obtain ⟨l2, hl2⟩ : ∃ l2, searchOf b (knot k) = l2 := ⟨_, rfl⟩
  obtain ⟨N2, hN2⟩ : ∃ N2, l2.length = N2 := ⟨_, rfl⟩
  obtain ⟨w8, hw8⟩ : ∃ w8, w8 = (w7.alloc (.cells #[.int .i64 k.kind, .int .i64 k.flag, .string k.text, .slice sa sn sc, .slice ka kn kc] 29)).alloc (.cells #[.int .i64 5, .int .i64 0, .string ⟨#[]⟩, .slice none 0 0, .slice (some ⟨w7.heap.size, 0, none⟩) 1 1] 29) := ⟨_, rfl⟩
  have q8 : Below w7.heap.size w7 w8 := by rw [hw8]; go_grown
  have hx8 : w8.heap[w7.heap.size + 1]? = some (.cells #[.int .i64 5, .int .i64 0, .string ⟨#[]⟩, .slice none 0 0, .slice (some ⟨w7.heap.size, 0, none⟩) 1 1] 29 (0, 0)) := by rw [hw8]; exact alloc_at _ _ (by simp)
  have hk8 : w8.heap[w7.heap.size]? = some (.cells #[.int .i64 k.kind, .int .i64 k.flag, .string k.text, .slice sa sn sc, .slice ka kn kc] 29 (0, 0)) := by rw [hw8, Below.heap_alloc _ _ _ (by simp)]; exact heap_alloc_new w7 _
  obtain ⟨xk, hxk⟩ : ∃ xk, w7.heap.size = xk := ⟨_, rfl⟩
  rw [hxk] at hx8 hk8
  have HW8 := Lib.hid hw8; have HXK := Lib.hid hxk
  rw [hxk] at HW8
  replace HL := Lib.hid (HL.out.below q8)
  replace O5 := Lib.hid (O5.out.below q8)
  have HX : Hid (SL w (fun j => S j ∨ j = xk) b (knot k) #[.int .i64 b.next, .slice ab L cpb] #[.int .i64 5, .int .i64 0, .string ⟨#[]⟩, .slice none 0 0, .slice (some ⟨xk, 0, none⟩) 1 1] xb (xk + 1) w8) := ⟨HL.out.bat, KeyAt.one HL.out.kat hk8, HL.out.ins.add (lt_of_block hk8), HL.out.box, hx8, HL.out.nam, HL.out.mi, HL.out.bel, HL.out.lo⟩
  have hF2 : (knot k).Fit := Fit.one hF
  have hI := implSearchBox_any b (knot k) _ _ _ w8 HX.out.bat HX.out.kat HX.out.ins hF2 HX.out.nam HX.out.mi
  rw [hl2] at hI
  have hlen2 := search_len b (knot k)
  rw [hl2, hN2, HBL.out] at hlen2
  have HI := Lib.hid hI; have HN2 := Lib.hid hN2; have HL2 := Lib.hid hl2
  clear hw8 q8 hx8 hk8 hxk hI hN2 hl2
  go_upto_region 9 with fail
  rw [HXK.out, ← HW8.out]
  clear HW8 HXK c0 c1 e0 e1 e2 e3 e4
  obtain ⟨c0, c1⟩ := HX.out.cells2
  obtain ⟨s0, s1, s2, s3, s4⟩ := HX.out.cells5
  go_wp2_with fail
  refine HI.out.mono ?_
  rintro e w9 ⟨g9, cp9, rfl, ho9, q9⟩
  have h9 := ho9.at (by have := HN2.out; omega)
  rw [HN2.out] at h9 ⊢
  replace HX := Lib.hid (HX.out.below q9)
  replace O5 := Lib.hid (O5.out.below q9)
  have O9 := Lib.hid h9
  have hkv := implKeyValid_any (knot k) _ _ w9 HX.out.kat HX.out.ins hF2 HX.out.nam
  have HKV := Lib.hid hkv
  clear h9 ho9 q9 HI c0 c1 s0 s1 s2 s3 s4 hkv HL
  obtain ⟨c0, c1⟩ := HX.out.cells2
  obtain ⟨s0, s1, s2, s3, s4⟩ := HX.out.cells5
  rcases hx : keyOk (knot k) with _ | _
  · have hN0 : N2 = 0 := by rw [← HN2.out, ← HL2.out, search_no hx]; rfl
    rw [hx] at HKV
    clear hx
    subst hN0
    go_wp2_with fail
    refine HKV.out.mono ?_
    rintro e w10 ⟨rfl, q10⟩
    have hf := HX.out.bel.trans (q10.mono HX.out.bel.size)
    clear q10 c0 c1 s0 s1 s2 s3 s4
    go_wp2_with fail
    go_ret
    exact ⟨rfl, hf⟩
  · rw [hx] at HKV
    have hhas := fun (i : Nat) (hi : i < b.mail.length) => not_has HBK.out HOK.out hx hi
    rw [HL2.out, HLV.out] at hhas
    have hsum := not_len HBK.out HOK.out hx
    rw [HL2.out, HLV.out, HBL.out, HN2.out, HN.out] at hsum
    have HHAS := Lib.hid hhas; have HSUM := Lib.hid hsum
    clear hhas hsum hx
    go_wp2_with fail
    refine HKV.out.mono ?_
    rintro e w10 ⟨rfl, q10⟩
    replace HX := Lib.hid (HX.out.below q10)
    replace O5 := Lib.hid (O5.out.below q10)
    replace O9 := Lib.hid (O9.out.below q10)
    clear q10 c0 c1 s0 s1 s2 s3 s4 HKV
    go_wp2_with fail
    go_loopg [9] L (fun gk i wr => ∃ n : Nat, n + gk = L ∧ i = .int .i64 ((n : Int) + 1) ∧ wr = w10)
    case atStart => exact ⟨0, by omega, rfl, rfl⟩
    case round =>
      obtain ⟨n, hn, rfl, rfl⟩ := hrel
      obtain ⟨c0, c1⟩ := HX.out.cells2
      by_cases hlt : n < L
      · have hnI : (n : Int) + 1 ≤ (L : Int) := by omega
        have hh := HHAS.out n (by rw [HBL.out]; exact hlt)
        obtain ⟨r, hr⟩ : ∃ r, hasB l ((n : Int) + 1) = r := ⟨_, rfl⟩
        rw [hr] at hh
        have HHH := Lib.hid hh; have HR := Lib.hid hr
        clear hh hr
        rcases r with _ | _
        all_goals
          go_wp2_with (first | (go_at_call 19; (with_reducible refine Calls.mono (hasInt_at l2 ((n : Int) + 1) _ _ _ O9.out HHH.out) ?_); rintro e w' ⟨rfl, rfl⟩) | (go_at_call 19; (with_reducible refine Calls.mono (hasInt_at l ((n : Int) + 1) _ _ _ O5.out HR.out) ?_); rintro e w' ⟨rfl, rfl⟩))
          go_roundg (gk - 1)
          case measure => omega
          case rel => exact ⟨n + 1, by omega, by go_num, rfl⟩
      · obtain rfl : n = L := by omega
        have hs : (N2 : Int) + (N : Int) = (n : Int) := by have := HSUM.out; omega
        have hb : ((N2 : Int) + (N : Int) == (n : Int)) = true := by rw [hs]; simp
        have hnI : ¬ (n : Int) + 1 ≤ (n : Int) := by omega
        have HB := Lib.hid hb
        have hN10 : (N : Int) ≤ 10 := by have := search_len b k; rw [HLV.out, HN.out, HBL.out] at this; omega
        clear hs hb
        go_wp2_with fail
        go_ret
        exact ⟨ret_bool (by first | exact HB.out | simpa using HB.out), HX.out.bel⟩
end Go.Proofs.YtlkfaamjbecieaaDoor

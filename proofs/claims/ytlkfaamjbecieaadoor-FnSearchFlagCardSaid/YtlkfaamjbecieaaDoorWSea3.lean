/- WALKS of the laws of a search: a flag is found. -/
import Derived.Test.YtlkfaamjbecieaaDoorSWalk
namespace Go.Proofs.YtlkfaamjbecieaaDoor
open Go.RowKit
set_option linter.unusedVariables false

theorem pow5 {j : Nat} (h : j < 5) : 2 ^ j = 1 ∨ 2 ^ j = 2 ∨ 2 ^ j = 4 ∨ 2 ^ j = 8 ∨ 2 ^ j = 16 := by
  have : j = 0 ∨ j = 1 ∨ j = 2 ∨ j = 3 ∨ j = 4 := by omega
  rcases this with rfl | rfl | rfl | rfl | rfl <;> simp
set_option maxRecDepth 100000 in
set_option maxHeartbeats 2000000 in
theorem fnSearchFlag.walk (a : Option Addr) (len cap : Nat) (hl : len ≤ cap) (hm : cap ≤ maxLen) (w : World) (hSe : Sees w) (hc : CodeAt w a len) :
    Calls Tryd.prog 10 #[.slice a len cap] w fun e w' => e = .returned (.bool true) ∧ Below w.heap.size w w' := by
  by_cases hlen : 1048576 < len
  · unfold maxLen at hm
    clear hc hSe
    go_enter Tryd.func10, Tryd.ntmps10
    go_wp2_with fail
    go_ret
    exact ⟨rfl, Below.refl _ _⟩
  go_enter Tryd.func10, Tryd.ntmps10
  unfold maxLen at hm
  go_wp2_with fail
  refine (DrawSearchBox_any a len cap hl w hc).mono ?_
  clear hc
  rintro e w1 ⟨b, ab, cpb, k, S, kv, rfl, hb, hk, hi, hlow, hF, hn, b1⟩
  obtain ⟨sa, sn, sc, ka, kn, kc, rfl, hjunk⟩ := hk.open
  have hbx := hb.box
  have hl10 := hb.1.2.2
  have hcp : b.mail.length ≤ cpb := by
    obtain ⟨s', hv, x, n', c', hs, h1, h2, _⟩ := hbx
    simp only [Value.agg.injEq, Array.mk.injEq, List.cons.injEq, and_true] at hv
    obtain ⟨_, rfl⟩ := hv
    simp only [Value.slice.injEq] at hs
    omega
  obtain ⟨L, hL⟩ : ∃ L, b.mail.length = L := ⟨_, rfl⟩
  rw [hL] at hbx hl10 hcp ⊢
  obtain ⟨w2, hw2⟩ : ∃ w2, w2 = (w1.alloc (.cells #[.int .i64 b.next, .slice ab L cpb] 25)).alloc (.cells #[.int .i64 k.kind, .int .i64 k.flag, .string k.text, .slice sa sn sc, .slice ka kn kc] 29) := ⟨_, rfl⟩
  have hSL : SL w S b k #[.int .i64 b.next, .slice ab L cpb] #[.int .i64 k.kind, .int .i64 k.flag, .string k.text, .slice sa sn sc, .slice ka kn kc] w1.heap.size (w1.heap.size + 1) w2 := by
    have b2 : Below w1.heap.size w1 w2 := by rw [hw2]; go_grown
    refine ⟨hbx.below b2, hk.below hi b2, hi.below b2, ?_, ?_, hSe.1.below (b1.trans (b2.mono b1.size)), hSe.2.below (b1.trans (b2.mono b1.size)), b1.trans (b2.mono b1.size), b1.size⟩
    · rw [hw2, Below.heap_alloc _ _ _ (by simp)]; exact heap_alloc_new w1 _
    · rw [hw2]; exact alloc_at _ _ (by simp)
  have HL := Lib.hid hSL; have HW := Lib.hid hw2; have HBL := Lib.hid hL
  obtain ⟨xb, hxb⟩ : ∃ xb, w1.heap.size = xb := ⟨_, rfl⟩
  have HXB := Lib.hid hxb
  rw [hxb] at HL
  clear hSL hw2 hk hi hlow b1 hjunk hb hbx hL hxb hlen
  go_wp2_with fail
  rw [← HW.out, HXB.out]
  clear HW HXB
  obtain ⟨l, hlv⟩ : ∃ l, searchOf b k = l := ⟨_, rfl⟩
  obtain ⟨N, hN⟩ : ∃ N, l.length = N := ⟨_, rfl⟩
  have HLV := Lib.hid hlv; have HN := Lib.hid hN
  have hI := implSearchBox_any b k _ _ S w2 HL.out.bat HL.out.kat HL.out.ins hF HL.out.nam HL.out.mi
  rw [hlv] at hI
  have HI := Lib.hid hI
  clear hlv hN hI
  obtain ⟨c0, c1, f0, f1⟩ := two_cells HL.out.box
  obtain ⟨e0, e1, e2, e3, e4, y0, y1, y2, y3, y4⟩ := five_cells HL.out.key
  clear f0 f1 y0 y1 y2 y3 y4
  go_wp2_with fail
  refine HI.out.mono ?_
  rintro e w3 ⟨g5, cp5, rfl, ho5, q3⟩
  have h5 := ho5.at (by have := search_len b k; rw [HLV.out] at this; have h2 := HBL.out; omega)
  rw [HN.out] at h5 ⊢
  replace HL := Lib.hid (HL.out.below q3)
  have O5 := Lib.hid h5
  have hI := specSearchBox_any b k _ _ S w3 HL.out.bat HL.out.kat HL.out.ins hF (by omega)
  rw [HLV.out] at hI
  replace HI := Lib.hid hI
  clear ho5 q3 h5 hI c0 c1 e0 e1 e2 e3 e4
  obtain ⟨c0, c1, f0, f1⟩ := two_cells HL.out.box
  obtain ⟨e0, e1, e2, e3, e4, y0, y1, y2, y3, y4⟩ := five_cells HL.out.key
  clear f0 f1 y0 y1 y2 y3 y4
  go_wp2_with fail
  refine HI.out.mono ?_
  rintro e w4 ⟨g6, cp6, rfl, ho6, q4⟩
  have h6 := ho6.at (by have := search_len b k; rw [HLV.out] at this; have h2 := HBL.out; omega)
  rw [HN.out] at h6 ⊢
  replace HL := Lib.hid (HL.out.below q4)
  replace O5 := Lib.hid (O5.out.below q4)
  have O6 := Lib.hid h6
  have hsm := sameInts_any l _ _ w4 O5.out O6.out
  have HSM := Lib.hid hsm
  clear ho6 q4 h6 hsm HI c0 c1 e0 e1 e2 e3 e4
  obtain ⟨c0, c1, f0, f1⟩ := two_cells HL.out.box
  obtain ⟨e0, e1, e2, e3, e4, y0, y1, y2, y3, y4⟩ := five_cells HL.out.key
  clear f0 f1 y0 y1 y2 y3 y4
  go_wp2_with fail
  refine HSM.out.mono ?_
  rintro e w5 ⟨rfl, q5⟩
  replace HL := Lib.hid (HL.out.below q5)
  replace O5 := Lib.hid (O5.out.below q5)
  replace O6 := Lib.hid (O6.out.below q5)
  have hbv := specBoxValid_any b _ w5 HL.out.bat
  have HBV := Lib.hid hbv
  clear q5 hbv HSM c0 c1 e0 e1 e2 e3 e4
  obtain ⟨c0, c1, f0, f1⟩ := two_cells HL.out.box
  obtain ⟨e0, e1, e2, e3, e4, y0, y1, y2, y3, y4⟩ := five_cells HL.out.key
  clear f0 f1 y0 y1 y2 y3 y4
  go_wp2_with fail
  refine HBV.out.mono ?_
  rintro e w6 ⟨rfl, q6⟩
  replace HL := Lib.hid (HL.out.below q6)
  replace O5 := Lib.hid (O5.out.below q6)
  replace O6 := Lib.hid (O6.out.below q6)
  have hkv := specKeyValid_any k _ S w6 HL.out.kat HL.out.ins hF (by omega)
  have HKV := Lib.hid hkv
  clear q6 hkv HBV c0 c1 e0 e1 e2 e3 e4
  obtain ⟨c0, c1, f0, f1⟩ := two_cells HL.out.box
  obtain ⟨e0, e1, e2, e3, e4, y0, y1, y2, y3, y4⟩ := five_cells HL.out.key
  clear f0 f1 y0 y1 y2 y3 y4
  rcases hbk : bok b with _ | _
  · have hsm := sameInts_any l _ _ w6 O5.out O6.out
    have HSM := Lib.hid hsm
    clear hsm hbk
    go_wp2_with fail
    refine HSM.out.mono ?_
    rintro e w7 ⟨rfl, q7⟩
    have hf := HL.out.bel.trans (q7.mono HL.out.bel.size)
    clear q7 c0 c1 e0 e1 e2 e3 e4
    go_wp2_with fail
    go_ret
    exact ⟨rfl, hf⟩
  have HBK := Lib.hid hbk
  clear hbk
  go_wp2_with fail
  refine HKV.out.mono ?_
  rintro e w7 ⟨rfl, q7⟩
  replace HL := Lib.hid (HL.out.below q7)
  replace O5 := Lib.hid (O5.out.below q7)
  replace O6 := Lib.hid (O6.out.below q7)
  clear q7 HKV c0 c1 e0 e1 e2 e3 e4
  rcases hok : keyOk k with _ | _
  · have hsm := sameInts_any l _ _ w7 O5.out O6.out
    have HSM := Lib.hid hsm
    clear hsm hok
    go_wp2_with fail
    refine HSM.out.mono ?_
    rintro e w8 ⟨rfl, q8⟩
    have hf := HL.out.bel.trans (q8.mono HL.out.bel.size)
    clear q8
    go_wp2_with fail
    go_ret
    exact ⟨rfl, hf⟩
  have HOK := Lib.hid hok
  clear hok
  obtain ⟨c0, c1, f0, f1⟩ := two_cells HL.out.box
  obtain ⟨e0, e1, e2, e3, e4, y0, y1, y2, y3, y4⟩ := five_cells HL.out.key
  clear f0 f1 y0 y1 y2 y3 y4
  clear O6
  clear c0 c1 e0 e1 e2 e3 e4 O5
  go_wp2_with fail
  go_loopg [7] 5 (fun gk x wr => ∃ f j : Nat, j + gk = 5 ∧ x = .int .i64 f ∧ Hid (f = 2 ^ j) ∧ Hid (SL w S b k #[.int .i64 b.next, .slice ab L cpb] #[.int .i64 k.kind, .int .i64 k.flag, .string k.text, .slice sa sn sc, .slice ka kn kc] xb (xb + 1) wr))
  case atStart => exact ⟨1, 0, by omega, rfl, (by show _ = _; rfl), HL.out⟩
  case round =>
    clear HL
    obtain ⟨f, j, hj, rfl, HFJ, HL⟩ := hrel
    obtain ⟨c0, c1, f0, f1⟩ := two_cells HL.out.box
    clear f0 f1
    by_cases hj5 : j < 5
    · have hf5 := pow5 hj5
      rw [← HFJ.out] at hf5
      have hf16 : (f : Int) ≤ 16 := by omega
      have hfl : flag1 (f : Int) = true := by rcases hf5 with rfl | rfl | rfl | rfl | rfl <;> rfl
      obtain ⟨l2, hl2⟩ : ∃ l2, searchOf b (khas (f : Int)) = l2 := ⟨_, rfl⟩
      obtain ⟨N2, hN2⟩ : ∃ N2, l2.length = N2 := ⟨_, rfl⟩
      have hI := implSearchBox_any b (khas (f : Int)) _ _ S wr HL.out.bat (leafAt wr S 1 (f : Int) ⟨#[]⟩) HL.out.ins (Fit.leaf (by decide)) HL.out.nam HL.out.mi
      rw [hl2] at hI
      have HI := Lib.hid hI
      have hlen2 := search_len b (khas (f : Int))
      rw [hl2, hN2, HBL.out] at hlen2
      have hfnd := fun (i : Nat) (hi : i < b.mail.length) => flag_found HBK.out hf5 hi
      rw [hl2] at hfnd
      have HN2 := Lib.hid hN2; have HFN := Lib.hid hfnd
      clear hl2 hN2 hI hfnd hfl hf5
      go_wp2_with fail
      refine HI.out.mono ?_
      rintro e w8 ⟨g8, cp8, rfl, ho8, q8⟩
      have h8 := ho8.at (by have := HN2.out; omega)
      rw [HN2.out] at h8 ⊢
      replace HL := Lib.hid (HL.out.below q8)
      have O8 := Lib.hid h8
      clear ho8 q8 h8 HI c0 c1
      go_wp2_with fail
      obtain ⟨g0, rfl⟩ : ∃ x, x = gk := ⟨_, rfl⟩
      go_loopg [9] L (fun gk i wr => ∃ n : Nat, n + gk = L ∧ i = .int .i64 n ∧ Hid (SL w S b k #[.int .i64 b.next, .slice ab L cpb] #[.int .i64 k.kind, .int .i64 k.flag, .string k.text, .slice sa sn sc, .slice ka kn kc] xb (xb + 1) wr) ∧ Hid (IntsAt wr (.slice (some ⟨g8, 0, none⟩) N2 cp8) l2))
      case atStart => exact ⟨0, by omega, rfl, HL.out, O8.out⟩
      case round =>
        clear HL O8
        obtain ⟨n, hn, rfl, HL, O8⟩ := hrel
        obtain ⟨c0, c1, f0, f1⟩ := two_cells HL.out.box
        clear f0 f1
        by_cases hlt : n < L
        · have hlt' : n < b.mail.length := by rw [HBL.out]; exact hlt
          obtain ⟨gm, off, rfl, k0, k1, k2⟩ := HL.out.bat.msg n _ (List.getElem?_eq_getElem hlt')
          have hfn := HFN.out n hlt'
          generalize b.mail[n] = m at k0 k1 k2 hfn
          obtain ⟨r, hr⟩ : ∃ r, haveB m.flags (f : Int) = r := ⟨_, rfl⟩
          rw [hr] at hfn
          have HF := Lib.hid hfn; have HR := Lib.hid hr
          have hnI : (n : Int) < (L : Int) := by omega
          have x1 : IntKind.i64.wrap ((n : Int) + 1) = (n : Int) + 1 := IntWalk.i64_in _ (by omega)
          have x2 : (0 : Int) ≤ (n : Int) + 1 := by omega
          clear hlt' hfn hr
          go_wp2_with fail
          go_quiet (first | (go_at_call 19; exact Calls.quiet_of_same (hasInt_at l2 ((n : Int) + 1) r _ _ (by first | exact O8.out | exact O8.out.drewN _) HF.out)) | (go_at_call 26; exact Calls.quiet_of_same (flagsHave_at m.flags (f : Int) r _ HR.out)))
          clear x1 x2
          rcases r with _ | _
          all_goals
            go_wp2_with fail
            go_roundg (gk - 1)
            case measure => omega
            case rel => exact ⟨n + 1, by omega, by go_num, HL.out.drewN _, O8.out.drewN _⟩
        · obtain rfl : n = L := by omega
          have hp : 2 * f = 2 ^ (j + 1) := by rw [HFJ.out, Nat.pow_succ]; omega
          have HP := Lib.hid hp
          clear hp
          go_wp2_with fail
          go_roundg (g0 - 1)
          case measure => omega
          case rel => exact ⟨2 * f, j + 1, by omega, by go_num, HP.out, HL.out⟩
    · obtain rfl : j = 5 := by omega
      have hf : f = 32 := by have := HFJ.out; omega
      subst hf
      go_wp2_with fail
      go_ret
      exact ⟨rfl, HL.out.bel⟩
end Go.Proofs.YtlkfaamjbecieaaDoor

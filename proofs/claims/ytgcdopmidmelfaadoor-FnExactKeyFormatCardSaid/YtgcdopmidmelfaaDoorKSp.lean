/- WALKS: the reference's text of a key. -/
import Derived.Test.YtgcdopmidmelfaaDoorKNum
import Derived.Test.YtgcdopmidmelfaaDoorKFo
namespace Go.Proofs.YtgcdopmidmelfaaDoor
open Go.RowKit
set_option linter.unusedVariables false

theorem kDrewN {B : Nat} {w w' : World} (h : Below B w w') (n : Nat) : Below B w (w'.drewN n) := ⟨h.os, h.tape, h.output, h.size, h.block⟩
theorem l3Word_any (n : Int) (h0 : 0 ≤ n) (h1 : n ≤ 99) (w : World) :
    Calls Tryd.prog 38 #[.int .i64 n] w fun e w' => ∃ s, e = .returned (.string s) ∧ StrIs s (numT n) ∧ Below w.heap.size w w' := by
  by_cases hn : n = 0
  · subst hn
    go_enter Tryd.func38, Tryd.ntmps38
    go_wp2_with fail
    go_ret
    exact ⟨_, rfl, rfl, Below.refl _ _⟩
  · have hb : (n == 0) = false := beq_eq_false_iff_ne.2 hn
    obtain ⟨m, rfl⟩ := Int.eq_ofNat_of_zero_le h0
    have hm : m < 100 := by omega
    have HE := Lib.hid (show Lib.decDigits m = numT (m : Int) by unfold numT; rw [if_neg hn]; rfl)
    go_enter Tryd.func38, Tryd.ntmps38
    go_wp2_with fail
    refine (l6Dec_any m hm _).mono ?_
    rintro e w' ⟨s, rfl, hs, q⟩
    have HS := Lib.hid hs
    clear hs
    go_wp2_with fail
    go_ret
    exact ⟨s, rfl, by rw [← HE.out]; exact HS.out, q⟩
set_option maxHeartbeats 2000000 in
theorem specSetText_any (l : List (Int × Int)) (v : Value) (S : Nat → Prop) (w : World) (h : SetAt w S v l) (hN : Ins S w) (hok : setOk l = true) :
    Calls Tryd.prog 28 #[v] w fun e w' => ∃ s, e = .returned (.string s) ∧ StrIs s (setT l) ∧ Below w.heap.size w w' := by
  have hat := h
  obtain ⟨a, L, cap, rfl, hL, hc, ⟨hm, _⟩, hmail⟩ := h
  have hok' := hok
  simp [setOk] at hok'
  have hl6 : L ≤ 6 := by omega
  have HAT := Lib.hid hat; have HI := Lib.hid hN; have HL := Lib.hid hL; have HOK := Lib.hid hok
  have HSP := Lib.hid (show ∀ s ∈ l, spanOk s = true by intro s hs; have := hok; unfold setOk at this; rw [Bool.and_eq_true] at this; exact List.all_eq_true.1 this.2 s hs)
  clear hat hN hL hok hok'
  go_enter Tryd.func28, Tryd.ntmps28
  go_wp2_with fail
  go_loopw [3, 4] (fun out i wr => ∃ (n : Nat) (x : ByteArray), n ≤ L ∧ i = .int .i64 n ∧ out = .string x ∧ x.size ≤ 6 * n ∧ Hid (StrIs x (setTo l n)) ∧ Below w.heap.size w wr) (fun _ i _ => L - (intOf i).toNat)
  case atStart => exact ⟨0, _, by omega, rfl, rfl, by decide, rfl, Below.refl _ _⟩
  case round =>
    obtain ⟨n, x, hn, rfl, rfl, hxz, HX, hq⟩ := hrel
    by_cases hlt : n < L
    · rcases hmail with h0 | ⟨g, off, rfl, hg, hcells⟩
      · omega
      replace hg := HI.out _ hg
      have hlt' : n < l.length := by rw [HL.out]; exact hlt
      have hm := List.getElem?_eq_getElem hlt'
      have hsp := HSP.out _ (List.getElem_mem hlt')
      generalize l[n] = s at hm hsp
      have hst := setTo_one hm
      have hspl := spanT_len hsp
      obtain ⟨lo, hi⟩ := s
      simp [spanOk] at hsp
      obtain ⟨c0, c1⟩ := hcells n _ hm
      dsimp only at c0 c1
      replace c0 := (hq.cell (p := ⟨g, _, none⟩) hg).trans c0
      replace c1 := (hq.cell (p := ⟨g, _, none⟩) hg).trans c1
      have hnI : (n : Int) < (L : Int) := by omega
      have HST := Lib.hid hst
      have HV := Lib.hid (specSetValid_any l _ S wr (HAT.out.below HI.out hq))
      clear hcells hst hm
      go_wp2_with fail
      refine HV.out.mono ?_
      rintro e w' ⟨rfl, rfl⟩
      rw [HOK.out]
      clear HV
      obtain ⟨sep, hsep⟩ : ∃ sep : List UInt8, (if n = 0 then [] else [44]) = sep := ⟨_, rfl⟩
      by_cases hn0 : n = 0
      · have hns : sep = [] := by rw [← hsep, if_pos hn0]
        have hb : ¬ (0 : Int) < (n : Int) := by omega
        obtain ⟨z, hzx⟩ : ∃ z, x = z := ⟨_, rfl⟩
        have HZ := Lib.hid (show StrIs z (setTo l n ++ sep) by rw [← hzx, hns, List.append_nil]; exact HX.out)
        have hzz : z.size ≤ 6 * n + 1 := by rw [← hzx]; omega
        rw [hsep] at HST
        rw [hzx]
        clear HX hsep hns hxz hzx hb
        subst hn0
        simp only [Nat.zero_mul, Nat.add_zero] at c0 c1
        go_wp2_with fail
        refine (l3Word_any lo (by omega) (by omega) _).mono ?_
        rintro e w2 ⟨s1, rfl, hs1, q2⟩
        have q3 := hq.trans (q2.mono hq.size)
        replace c0 := (q2.cell (p := ⟨g, _, none⟩) (World.block_lt_of_cell? _ _ c0)).trans c0
        replace c1 := (q2.cell (p := ⟨g, _, none⟩) (World.block_lt_of_cell? _ _ c1)).trans c1
        have hs1z : s1.size ≤ 2 := by rw [strSize hs1]; exact numT_len (by omega)
        have HS1 := Lib.hid hs1
        clear hs1 q2
        by_cases hlh : hi = lo
        · subst hlh
          have e0 : setTo l 0 ++ sep ++ numT hi = setTo l (0 + 1) := by rw [HST.out]; simp [spanT]
          have HR := Lib.hid (show StrIs (z ++ s1) (setTo l (0 + 1)) by rw [← e0]; exact strApp HZ.out HS1.out)
          clear e0
          have n0 : (0 : Int) ≤ (0 : Int) := by omega
          go_wp2_with fail
          go_quiet (fail)
          go_wp2_with fail
          go_roundw
          case rel => exact ⟨0 + 1, z ++ s1, by omega, by go_num, rfl, by rw [ByteArray.size_append]; omega, HR, kDrewN q3 _⟩
          case measure => simp [intOf]; omega
        · have hb2 : (hi == lo) = false := beq_eq_false_iff_ne.2 hlh
          have HLH := Lib.hid hlh
          clear hlh
          have n0 : (0 : Int) ≤ (0 : Int) := by omega
          go_wp2_with fail
          go_quiet (fail)
          go_wp2_with fail
          refine (l3Word_any hi (by omega) (by omega) _).mono ?_
          rintro e w3 ⟨s2, rfl, hs2, q4⟩
          have q5 : Below w.heap.size w w3 := (kDrewN q3 _).trans (q4.mono q3.size)
          have hs2z : s2.size ≤ 2 := by rw [strSize hs2]; exact numT_len (by omega)
          have e0 : setTo l 0 ++ sep ++ numT lo ++ [58] ++ numT hi = setTo l (0 + 1) := by rw [HST.out]; simp [spanT, HLH.out]
          have HR := Lib.hid (show StrIs (z ++ s1 ++ (⟨#[58]⟩ : ByteArray) ++ s2) (setTo l (0 + 1)) by rw [← e0]; exact strApp (strApp (strApp HZ.out HS1.out) rfl) hs2)
          have h58 : (⟨#[58]⟩ : ByteArray).size = 1 := rfl
          clear e0 hs2 c0 c1 q4
          go_wp2_with fail
          go_roundw
          case rel => exact ⟨0 + 1, _, by omega, by go_num, rfl, by simp only [ByteArray.size_append, h58]; omega, HR, q5⟩
          case measure => simp [intOf]; omega
      · have hns : sep = [44] := by rw [← hsep, if_neg hn0]
        have hb : (0 : Int) < (n : Int) := by omega
        obtain ⟨z, hzx⟩ : ∃ z, x ++ (⟨#[44]⟩ : ByteArray) = z := ⟨_, rfl⟩
        have HZ := Lib.hid (show StrIs z (setTo l n ++ sep) by rw [← hzx, hns]; exact strApp HX.out rfl)
        have h44 : (⟨#[44]⟩ : ByteArray).size = 1 := rfl
        have hzz : z.size ≤ 6 * n + 1 := by rw [← hzx, ByteArray.size_append]; omega
        rw [hsep] at HST
        clear HX hsep hns
        go_wp2_with fail
        clear hzx
        refine (l3Word_any lo (by omega) (by omega) _).mono ?_
        rintro e w2 ⟨s1, rfl, hs1, q2⟩
        have q3 := hq.trans (q2.mono hq.size)
        replace c0 := (q2.cell (p := ⟨g, _, none⟩) (World.block_lt_of_cell? _ _ c0)).trans c0
        replace c1 := (q2.cell (p := ⟨g, _, none⟩) (World.block_lt_of_cell? _ _ c1)).trans c1
        have hs1z : s1.size ≤ 2 := by rw [strSize hs1]; exact numT_len (by omega)
        have HS1 := Lib.hid hs1
        clear hs1 q2
        by_cases hlh : hi = lo
        · subst hlh
          have e0 : setTo l n ++ sep ++ numT hi = setTo l (n + 1) := by rw [HST.out]; simp [spanT]
          have HR := Lib.hid (show StrIs (z ++ s1) (setTo l (n + 1)) by rw [← e0]; exact strApp HZ.out HS1.out)
          clear e0
          have n0 : (0 : Int) ≤ (n : Int) := by omega
          go_wp2_with fail
          go_quiet (fail)
          go_wp2_with fail
          go_roundw
          case rel => exact ⟨n + 1, z ++ s1, by omega, by go_num, rfl, by rw [ByteArray.size_append]; omega, HR, kDrewN q3 _⟩
          case measure => simp [intOf]; omega
        · have hb2 : (hi == lo) = false := beq_eq_false_iff_ne.2 hlh
          have HLH := Lib.hid hlh
          clear hlh
          have n0 : (0 : Int) ≤ (n : Int) := by omega
          go_wp2_with fail
          go_quiet (fail)
          go_wp2_with fail
          refine (l3Word_any hi (by omega) (by omega) _).mono ?_
          rintro e w3 ⟨s2, rfl, hs2, q4⟩
          have q5 : Below w.heap.size w w3 := (kDrewN q3 _).trans (q4.mono q3.size)
          have hs2z : s2.size ≤ 2 := by rw [strSize hs2]; exact numT_len (by omega)
          have e0 : setTo l n ++ sep ++ numT lo ++ [58] ++ numT hi = setTo l (n + 1) := by rw [HST.out]; simp [spanT, HLH.out]
          have HR := Lib.hid (show StrIs (z ++ s1 ++ (⟨#[58]⟩ : ByteArray) ++ s2) (setTo l (n + 1)) by rw [← e0]; exact strApp (strApp (strApp HZ.out HS1.out) rfl) hs2)
          have h58 : (⟨#[58]⟩ : ByteArray).size = 1 := rfl
          clear e0 hs2 c0 c1 q4
          go_wp2_with fail
          go_roundw
          case rel => exact ⟨n + 1, _, by omega, by go_num, rfl, by simp only [ByteArray.size_append, h58]; omega, HR, q5⟩
          case measure => simp [intOf]; omega
    · have hnn : n = L := by omega
      have HF := Lib.hid (show StrIs x (setT l) by unfold setT; rw [HL.out, ← hnn]; exact HX.out)
      clear HX hmail
      go_wp2_with fail
      go_ret
      exact ⟨x, rfl, HF.out, hq⟩
end Go.Proofs.YtgcdopmidmelfaaDoor

/- WALKS: the reference reads a text of flags, word by word. -/
import Derived.Test.YtbmpbkidjcaogaaDoorPSpec
namespace Go.Proofs.YtbmpbkidjcaogaaDoor
open Go.RowKit
set_option linter.unusedVariables false

def flagTo (w : List UInt8) : Nat → Nat
  | 0 => 0
  | k + 1 => if nm k = w then 2 ^ k else flagTo w k
theorem nm_inj : ∀ j, j < 5 → ∀ k, k < 5 → nm j = nm k → j = k := by decide +kernel
theorem flagTo_is (w : List UInt8) : flagTo w 5 = flagL w := by
  rcases flagL_cases w with ⟨h0, hn⟩ | ⟨k, hk, rfl, h0⟩
  · rw [h0]
    have key : ∀ j, j ≤ 5 → flagTo w j = 0 := by
      intro j
      induction j with
      | zero => intro _; rfl
      | succ j ih =>
        intro hj
        rw [flagTo, if_neg (fun e => hn j (by omega) e.symm)]
        exact ih (by omega)
    exact key 5 (by omega)
  · rw [h0]
    have key : ∀ j, j ≤ 5 → flagTo (nm k) j = if k < j then 2 ^ k else 0 := by
      intro j
      induction j with
      | zero => intro _; rfl
      | succ j ih =>
        intro hj
        rw [flagTo]
        by_cases e : nm j = nm k
        · have := nm_inj j (by omega) k hk e
          subst this
          rw [if_pos rfl, if_pos (by omega)]
        · rw [if_neg e, ih (by omega)]
          have hne : j ≠ k := fun h => e (by rw [h])
          by_cases h : k < j
          · rw [if_pos h, if_pos (by omega)]
          · rw [if_neg h, if_neg (by omega)]
    rw [key 5 (by omega), if_pos hk]
theorem inner_not {l : List UInt8} (h : l.length < 2 ∨ l.head? ≠ some 40 ∨ l.getLast? ≠ some 41) : innerL l = none := by
  unfold innerL
  rw [if_neg]
  rintro ⟨h1, h2, h3⟩
  rcases h with h | h | h
  · omega
  · exact h h2
  · exact h h3
theorem inner_yes {l : List UInt8} (h1 : 2 ≤ l.length) (h2 : l.head? = some 40) (h3 : l.getLast? = some 41) : innerL l = some ((l.drop 1).dropLast) := by
  unfold innerL; rw [if_pos ⟨h1, h2, h3⟩]
/-- The words and the names, where they can be read. -/
structure WS (w : World) (b g : Nat) (strs : List ByteArray) (W : World) : Prop where
  nms : ∀ k, k < 5 → ∃ s, W.cell? ⟨b, k, none⟩ = some (.string s) ∧ StrIs s (nm k) ∧ s.size ≤ 8
  wds : ∀ j x, strs[j]? = some x → W.cell? ⟨g, j, none⟩ = some (.string x)
  lb : b < W.heap.size
  lg : g < W.heap.size
  bel : Below w.heap.size w W
theorem WS.below {w W W' : World} {b g : Nat} {strs : List ByteArray} (h : WS w b g strs W) (q : Below W.heap.size W W') : WS w b g strs W' :=
  ⟨fun k hk => by obtain ⟨s, h1, h2⟩ := h.nms k hk; exact ⟨s, (q.cell (p := ⟨b, k, none⟩) h.lb).trans h1, h2⟩, fun j x hx => (q.cell (p := ⟨g, j, none⟩) h.lg).trans (h.wds j x hx),
    Nat.lt_of_lt_of_le h.lb q.size, Nat.lt_of_lt_of_le h.lg q.size, h.bel.trans (q.mono h.bel.size)⟩
theorem WS.drewN {w W : World} {b g : Nat} {strs : List ByteArray} (h : WS w b g strs W) (n : Nat) : WS w b g strs (W.drewN n) := h.below ⟨rfl, rfl, rfl, Nat.le_refl _, fun _ _ => rfl⟩
theorem fold_take {strs : List ByteArray} {j f : Nat} {x : ByteArray} (h : foldW 0 (lists (strs.take j)) = some f) (hx : strs[j]? = some x) : foldW 0 (lists (strs.take (j + 1))) = addW f x.data.toList := by
  obtain ⟨hj, rfl⟩ := List.getElem?_eq_some_iff.1 hx
  rw [List.take_succ_eq_append_getElem hj, lists_snoc, foldW_snoc, h]
  rfl
theorem fold_stop {strs : List ByteArray} {j : Nat} (h : foldW 0 (lists (strs.take j)) = none) : foldW 0 (lists strs) = none := by
  have e : lists strs = lists (strs.take j) ++ lists (strs.drop j) := by unfold lists; rw [← List.map_append, List.take_append_drop]
  rw [e, foldW_app, h]; rfl
set_option maxHeartbeats 1000000 in
theorem specParse_bad (s : ByteArray) (hs : s.size ≤ 10000000) (w : World) (h : innerL s.data.toList = none) :
    Calls Tryd.prog 8 #[.string s] w fun e w' => e = .returned (.tuple #[.int .i64 0, .bool false]) ∧ Below w.heap.size w w' := by
  by_cases h2 : s.size < 2
  · have hI : (s.size : Int) < 2 := by omega
    clear h
    go_enter Tryd.func8, Tryd.ntmps8
    go_wp2_with fail
    go_ret2
    exact ⟨rfl, Below.refl _ _⟩
  · have h0 : 0 < s.size := by omega
    have h1 : s.size - 1 < s.size := by omega
    have e0 : s.data.toList.head? = some s[0] := by
      rw [List.head?_eq_getElem?, List.getElem?_eq_getElem (by rw [← size_list]; exact h0)]; rfl
    have e1 : s.data.toList.getLast? = some s[s.size - 1] := by
      rw [List.getLast?_eq_getElem?, ← size_list, List.getElem?_eq_getElem (by rw [← size_list]; exact h1)]; rfl
    have hI : decide ((s.size : Int) < 2) = false := decide_eq_false (by omega)
    have nA : ((s.size : Int) - 1).toNat = s.size - 1 := by omega
    have nB : (1 : Int) ≤ (s.size : Int) := by omega
    have nC : (s.size : Int) - 1 < (s.size : Int) := by omega
    by_cases h40 : s[0] = 40
    · have h41 : s[s.size - 1] ≠ 41 := fun e => by rw [inner_yes (by rw [← size_list]; omega) (by rw [e0, h40]) (by rw [e1, e])] at h; cases h
      have b0 : ((s[0].toNat : Int) != 40) = false := by rw [h40]; rfl
      have b1 : ((s[s.size - 1].toNat : Int) != 41) = true := by
        simp; intro e; exact h41 (UInt8.toNat_inj.1 (by show _ = 41; omega))
      clear h e0 e1 h40 h41
      go_enter Tryd.func8, Tryd.ntmps8
      go_wp2_with fail
      go_ret2
      exact ⟨rfl, Below.refl _ _⟩
    · have b0 : ((s[0].toNat : Int) != 40) = true := by
        simp; intro e; exact h40 (UInt8.toNat_inj.1 (by show _ = 40; omega))
      clear h e0 e1 h40
      go_enter Tryd.func8, Tryd.ntmps8
      go_wp2_with fail
      go_ret2
      exact ⟨rfl, Below.refl _ _⟩
set_option maxRecDepth 100000 in
set_option maxHeartbeats 2000000 in
theorem specParse_some (s : ByteArray) (hs : s.size ≤ 10000000) (i : List UInt8) (w : World) (h : innerL s.data.toList = some i) :
    Calls Tryd.prog 8 #[.string s] w fun e w' => e = .returned (.tuple #[.int .i64 ((parseL s.data.toList).1 : Nat), .bool (parseL s.data.toList).2]) ∧ Below w.heap.size w w' := by
  have hl := inner_is h
  have hlen : s.size = i.length + 2 := by rw [size_list, hl]; simp
  have h0 : 0 < s.size := by omega
  have h1 : s.size - 1 < s.size := by omega
  have e0 : s.data.toList.head? = some s[0] := by
    rw [List.head?_eq_getElem?, List.getElem?_eq_getElem (by rw [← size_list]; exact h0)]; rfl
  have e1 : s.data.toList.getLast? = some s[s.size - 1] := by
    rw [List.getLast?_eq_getElem?, ← size_list, List.getElem?_eq_getElem (by rw [← size_list]; exact h1)]; rfl
  have h40 : s[0] = 40 := by rw [hl] at e0; exact (Option.some.inj e0).symm
  have h41 : s[s.size - 1] = 41 := by rw [hl, ← List.cons_append, List.getLast?_concat] at e1; exact (Option.some.inj e1).symm
  have b0 : ((s[0].toNat : Int) != 40) = false := by rw [h40]; rfl
  have b1 : ((s[s.size - 1].toNat : Int) != 41) = false := by rw [h41]; rfl
  have hI : decide ((s.size : Int) < 2) = false := decide_eq_false (by omega)
  have nA : ((s.size : Int) - 1).toNat = s.size - 1 := by omega
  have nB : (1 : Int) ≤ (s.size : Int) := by omega
  have nB2 : (2 : Int) ≤ (s.size : Int) := by omega
  have nC : (s.size : Int) - 1 < (s.size : Int) := by omega
  by_cases hi : i = []
  · have hpr : parseL s.data.toList = (0, true) := by rw [parse_nil]; rw [h, hi]
    have h2 : s.size = 2 := by rw [hlen, hi]; rfl
    have b2 : ((s.size : Int) == 2) = true := by rw [h2]; rfl
    have HP := Lib.hid hpr
    clear h hl hlen e0 e1 h40 h41 hpr h2 hi
    go_enter Tryd.func8, Tryd.ntmps8
    go_wp2_with fail
    go_ret2
    exact ⟨by rw [HP.out]; rfl, Below.refl _ _⟩
  · have hpr := parse_some h hi
    have b2 : ((s.size : Int) == 2) = false := by
      refine beq_eq_false_iff_ne.2 (fun e => hi (List.eq_nil_of_length_eq_zero (by omega)))
    obtain ⟨y, hy⟩ : ∃ y, s.extract 1 (s.size - 1) = y := ⟨_, rfl⟩
    have hyl : y.data.toList = i := by
      have e : (s.data.toList.drop 1).dropLast = i := by rw [inner_yes (by rw [← size_list]; omega) (by rw [e0, h40]) (by rw [e1, h41])] at h; exact Option.some.inj h
      rw [← hy, ← ByteArray.toList_eq, ext_list, ← e, List.dropLast_eq_take, List.length_drop, ← size_list]
    have hys : y.size ≤ 10000000 := by rw [size_list, hyl]; omega
    have HP := Lib.hid hpr; have HYL := Lib.hid hyl
    have HC := Lib.hid (l1Cut_any y hys w)
    have HY := Lib.hid hy
    clear h hl hlen e0 e1 h40 h41 hpr hi hyl hy
    go_enter Tryd.func8, Tryd.ntmps8
    go_wp2_with fail
    rw [HY.out]
    refine HC.out.mono ?_
    rintro e w1 ⟨g, N, cp, strs, rfl, hown, ⟨hlen, hN⟩, hwl, q1⟩
    have hlg : g < w1.heap.size := by
      rcases hown.2 with ⟨h0, _⟩ | ⟨g', c', cur, he, _, hh, _⟩
      · cases h0
      · simp only [Value.slice.injEq, Option.some.injEq, Addr.mk.injEq] at he
        obtain ⟨⟨rfl, _⟩, _⟩ := he
        exact lt_of_block hh
    have hwds : ∀ j x, strs[j]? = some x → w1.cell? ⟨g, j, none⟩ = some (.string x) := by
      intro j x hx
      have := World.ownsRow.cells hown (g := g) rfl j (.string x) (by simp [hx])
      rwa [show (⟨g, 0, none⟩ : Addr).add j = ⟨g, j, none⟩ from by cases j <;> simp [Addr.add]] at this
    have HWD := Lib.hid hwds; have HLEN := Lib.hid hlen; have HWL := Lib.hid hwl
    clear hown hwds hlen hwl HC HY
    go_wp2_with fail
    refine (l4Names_any _).mono ?_
    rintro e w2 ⟨b, rfl, hwb, hnms, q2⟩
    have hWS : WS w b g strs w2 := ⟨hnms, fun j x hx => (q2.cell (p := ⟨g, j, none⟩) hlg).trans (HWD.out j x hx), by obtain ⟨s', hs', _⟩ := hnms 0 (by omega); exact World.block_lt_of_cell? _ _ hs', Nat.lt_of_lt_of_le hlg q2.size, q1.trans (q2.mono q1.size)⟩
    have HS := Lib.hid hWS
    clear hWS hnms hwb q1 q2 hlg HWD
    go_wp2_with fail
    go_loopg [7, 8] N (fun gk fl ii wr => ∃ j f : Nat, j + gk = N ∧ fl = .int .i64 f ∧ ii = .int .i64 j ∧ f < 32 ∧ Hid (foldW 0 (lists (strs.take j)) = some f) ∧ Hid (WS w b g strs wr))
    case atStart => exact ⟨0, 0, by omega, rfl, rfl, by omega, rfl, HS.out⟩
    case round =>
      clear HS
      obtain ⟨j, f, hj, rfl, rfl, hf32, HF, HS⟩ := hrel
      by_cases hlt : j < N
      · have hjs : j < strs.length := by rw [HLEN.out]; exact hlt
        have hxj := List.getElem?_eq_getElem hjs
        generalize strs[j] = x at hxj
        have hft := fold_take HF.out hxj
        have HFT := Lib.hid hft; have HXJ := Lib.hid hxj
        have hjI : (j : Int) < (N : Int) := by omega
        clear hft hxj hjs
        go_wp2_with fail
        obtain ⟨g0, rfl⟩ : ∃ z, z = gk := ⟨_, rfl⟩
        go_loopg [9, 10] 5 (fun gk bt kk wr => ∃ k c : Nat, k + gk = 5 ∧ bt = .int .i64 c ∧ kk = .int .i64 k ∧ Hid (c = flagTo x.data.toList k) ∧ Hid (WS w b g strs wr))
        case atStart => exact ⟨0, 0, by omega, rfl, rfl, rfl, HS.out⟩
        case round =>
          clear HS
          obtain ⟨k, c, hk, rfl, rfl, HB, HS⟩ := hrel
          by_cases hk5 : k < 5
          · obtain ⟨t, t1, t2, t3⟩ := HS.out.nms k hk5
            have t4 := HS.out.wds j x HXJ.out
            have hkI : (k : Int) < 5 := by omega
            by_cases heq : t.toList = x.toList
            · have hb : (t.toList == x.toList) = true := by rw [heq]; exact beq_self_eq_true _
              have hfl : 2 ^ k = flagTo x.data.toList (k + 1) := by
                rw [flagTo, if_pos]
                rw [← t2, ← ByteArray.toList_eq, heq, ByteArray.toList_eq]
              have HFL := Lib.hid hfl
              have HB4 := Lib.hid (fun W : World => l4Bit_at (k : Int) (2 ^ k) (by omega) (by omega) (by simp) W)
              clear t2 t3 heq hfl
              go_wp2_with fail
              go_quiet (fail)
              go_wp2_with fail
              refine (HB4.out _).mono ?_
              rintro e w3 ⟨rfl, q3⟩
              have HS3 := Lib.hid ((HS.out.drewN _).below q3)
              clear q3 t1 t4
              go_wp2_with fail
              go_roundg (gk - 1)
              case measure => omega
              case rel => exact ⟨k + 1, 2 ^ k, by omega, rfl, by go_num, HFL.out, HS3.out⟩
            · have hb : (t.toList == x.toList) = false := beq_eq_false_iff_ne.2 heq
              have hfl : c = flagTo x.data.toList (k + 1) := by
                rw [flagTo, if_neg]
                · exact HB.out
                · intro e
                  exact heq (by rw [ByteArray.toList_eq, ByteArray.toList_eq, show t.data.toList = nm k from t2, e])
              have HFL := Lib.hid hfl
              clear t2 t3 heq hfl
              go_wp2_with fail
              go_quiet (fail)
              go_wp2_with fail
              go_roundg (gk - 1)
              case measure => omega
              case rel => exact ⟨k + 1, c, by omega, rfl, by go_num, HFL.out, HS.out.drewN _⟩
          · obtain rfl : k = 5 := by omega
            have hc : c = flagL x.data.toList := by rw [HB.out, flagTo_is]
            have hadd := addW_ref hf32 x.data.toList
            rw [← hc] at hadd
            have hc32 : c < 32 := by rw [hc]; exact flagL_lt _
            obtain ⟨d1, d2⟩ := div_bd f c hf32
            have HADD := Lib.hid hadd
            clear hc hadd hk5
            by_cases hc0 : c = 0
            · subst hc0
              have hno : foldW 0 (lists (strs.take (j + 1))) = none := by rw [HFT.out, HADD.out, if_pos (.inl rfl)]
              have hpz : parseL s.data.toList = (0, false) := by rw [HP.out, ← HYL.out, ← HWL.out, fold_stop hno]
              have HPZ := Lib.hid hpz
              clear hno hpz d1 d2
              go_wp2_with fail
              go_ret2
              exact ⟨by rw [HPZ.out]; rfl, HS.out.bel⟩
            · have hcb : ((c : Int) == 0) = false := beq_eq_false_iff_ne.2 (by omega)
              have hcI : 0 < (c : Int) := by omega
              rcases mod2_cases f c with ⟨m1, m2⟩ | ⟨m1, m2⟩
              · have hyes : foldW 0 (lists (strs.take (j + 1))) = some (f + c) := by
                  rw [HFT.out, HADD.out, if_neg (by rintro (h | h); exact hc0 h; omega)]
                have hlt2 : f + c < 32 := foldW_lt (by omega) hyes
                have HYES := Lib.hid hyes
                clear hyes m2 hc0
                go_wp2_with fail
                go_roundg (g0 - 1)
                case measure => omega
                case rel => exact ⟨j + 1, f + c, by omega, by go_num, by go_num, hlt2, HYES.out, HS.out⟩
              · have hno : foldW 0 (lists (strs.take (j + 1))) = none := by rw [HFT.out, HADD.out, if_pos (.inr m2)]
                have hpz : parseL s.data.toList = (0, false) := by rw [HP.out, ← HYL.out, ← HWL.out, fold_stop hno]
                have HPZ := Lib.hid hpz
                clear hno hpz m2 hc0
                go_wp2_with fail
                go_ret2
                exact ⟨by rw [HPZ.out]; rfl, HS.out.bel⟩
      · obtain rfl : j = N := by omega
        have hpz : parseL s.data.toList = (f, true) := by
          have hf := HF.out
          rw [← HLEN.out, List.take_length, HWL.out, HYL.out] at hf
          rw [HP.out, hf]
        have HPZ := Lib.hid hpz
        clear hpz
        go_wp2_with fail
        go_ret2
        exact ⟨by rw [HPZ.out]; rfl, HS.out.bel⟩
theorem specFlagsParse_any (s : ByteArray) (hs : s.size ≤ 10000000) (w : World) :
    Calls Tryd.prog 8 #[.string s] w fun e w' => e = .returned (.tuple #[.int .i64 ((parseL s.data.toList).1 : Nat), .bool (parseL s.data.toList).2]) ∧ Below w.heap.size w w' := by
  rcases h : innerL s.data.toList with _ | i
  · rw [parse_none h]; exact specParse_bad s hs w h
  · exact specParse_some s hs i w h
end Go.Proofs.YtbmpbkidjcaogaaDoor

/- WALKS: the program writes a key, word by word. -/
import Derived.Test.YtgcdopmidmelfaaDoorKFmt
import Derived.Test.YtgcdopmidmelfaaDoorKImT
import Derived.Test.YtgcdopmidmelfaaDoorAsk
import Derived.Deep.RegionHeld3
import Derived.Deep.QuietTactic
import Derived.BigQuiet
namespace Go.Proofs.YtgcdopmidmelfaaDoor
open Go.RowKit
set_option linter.unusedVariables false

theorem ask_pair (s : TypeId) (hs : s ≠ 69) : Asks s 69 (.agg #[.bool false, .nilIface, .nilIface]) := assert_no Tryd.underlying69 hs (by kernel_rfl)
/-- What a written key is. -/
def Writes (w : World) (k : K) (e : Ending) (w' : World) : Prop := ∃ s, e = .returned (.string s) ∧ StrIs s (fmtK k) ∧ Below w.heap.size w w'
set_option maxRecDepth 100000 in
set_option maxHeartbeats 4000000 in
theorem keyWords_any (k : K) : k.allOk = true → k.nodes ≤ 1000 → ∀ (nd : Value) (S : Nat → Prop) (w : World), NodeAt w S k nd → Ins S w → Names w → Calls Tryd.prog 22 #[nd] w (Writes w k) := by
  induction k using K.ind with
  | h k ih =>
    intro hok hnn nd S w h hN hNa
    have hnode : nodeOk k = true := by rw [K.allOk_eq, Bool.and_eq_true] at hok; exact hok.2
    have hsub : ∀ c ∈ k.keys, c.allOk = true := by rw [K.allOk_eq, Bool.and_eq_true] at hok; exact List.all_eq_true.1 hok.1
    obtain ⟨g0, g7, g4, g5, g6⟩ := node_cases hnode
    have IH := Lib.hid (fun c (hc : c ∈ k.keys) => ih c hc (hsub c hc) (Nat.le_trans (nodes_mem hc) hnn))
    have LEN := Lib.hid (fun c (hc : c ∈ k.keys) => (show (fmtK c).length ≤ 60000 by have := fmt_len c (hsub c hc); have := nodes_mem hc; omega))
    have hnd := h
    rw [NodeAt] at hnd
    have HNO := Lib.hid hnode; have HK := Lib.hid h; have HN := Lib.hid hN; have HNA := Lib.hid hNa
    clear hnode h ih hsub hok hN hNa
    have hcase : k.kind = 0 ∨ k.kind = 1 ∨ k.kind = 2 ∨ k.kind = 3 ∨ k.kind = 4 ∨ k.kind = 5 ∨ (6 ≤ k.kind ∧ k.kind ≤ 7) := by omega
    rcases hcase with hk | hk | hk | hk | hk | hk | hk
    · rw [if_pos hk] at hnd
      obtain rfl := hnd
      have HF := Lib.hid (show fmtK k = [97, 108, 108] by rw [fmtK_leaf (g4 (by omega))]; unfold headK; rw [if_pos hk])
      clear g0 g7 g4 g5 g6 IH
      have q1 := ask_has 74 (by decide)
      have q2 := ask_text 74 (by decide)
      have q3 := ask_place 74 (by decide)
      have q4 := ask_uid 74 (by decide)
      have q5 := ask_not 74 (by decide)
      have q6 := ask_pair 74 (by decide)
      go_enter Tryd.func22, Tryd.ntmps22
      go_wp2_with fail
      go_ret
      exact ⟨_, rfl, by rw [HF.out]; rfl, Below.refl _ _⟩
    · rw [if_neg (by omega), if_pos hk] at hnd
      obtain rfl := hnd
      have HF := Lib.hid (show fmtK k = fwordL k.flag by rw [fmtK_leaf (g4 (by omega))]; unfold headK; rw [if_neg (by omega), if_pos hk])
      clear g0 g7 g4 g5 g6 IH
      have q1 := tell_has
      have bel : Below w.heap.size w (w.alloc (.cells #[.int .i64 k.flag] 59)) := by go_grown
      go_enter Tryd.func22, Tryd.ntmps22
      go_wp2_with fail
      refine (keyFlagWord_any k.flag _ (HNA.out.below bel)).mono ?_
      rintro e w2 ⟨rfl, q⟩
      have bel2 := bel.trans (q.mono bel.size)
      go_wp2_with fail
      go_ret
      exact ⟨_, rfl, by rw [HF.out]; exact strMk _, bel2⟩
    · rw [if_neg (by omega), if_neg (by omega), if_pos hk] at hnd
      obtain rfl := hnd
      have HF := Lib.hid (show fmtK k = [116, 101, 120, 116, 32] ++ k.text.data.toList by rw [fmtK_leaf (g4 (by omega))]; unfold headK; rw [if_neg (by omega), if_neg (by omega), if_pos hk])
      have hz := node_name HNO.out hk
      have hz5 : (⟨#[116, 101, 120, 116, 32]⟩ : ByteArray).size = 5 := rfl
      clear g0 g7 g4 g5 g6 IH
      have q1 := ask_has 62 (by decide)
      have q2 := tell_text
      go_enter Tryd.func22, Tryd.ntmps22
      go_wp2_with fail
      go_ret
      exact ⟨_, rfl, by rw [HF.out]; exact strApp rfl rfl, by go_grown⟩
    · rw [if_neg (by omega), if_neg (by omega), if_neg (by omega), if_pos hk] at hnd
      obtain ⟨sv, rfl, hsv⟩ := hnd
      have HSV := Lib.hid hsv
      obtain ⟨sa, sn, sc, rfl, _⟩ := hsv
      have HF := Lib.hid (show fmtK k = [97, 116, 32] ++ setT k.set by rw [fmtK_leaf (g4 (by omega))]; unfold headK; rw [if_neg (by omega), if_neg (by omega), if_neg (by omega), if_pos hk])
      have hso := node_set HNO.out (.inl hk)
      have HSO := Lib.hid hso
      have hz3 : (⟨#[97, 116, 32]⟩ : ByteArray).size = 3 := rfl
      clear g0 g7 g4 g5 g6 IH hso
      have q1 := ask_has 64 (by decide)
      have q2 := ask_text 64 (by decide)
      have q3 := tell_place
      have bel : Below w.heap.size w (w.alloc (.cells #[.slice sa sn sc] 64)) := by go_grown
      go_enter Tryd.func22, Tryd.ntmps22
      go_wp2_with fail
      refine (implSetText_any k.set _ S _ (HSV.out.below HN.out bel) (HN.out.below bel) HSO.out).mono ?_
      rintro e w2 ⟨s, rfl, hs, q⟩
      have bel2 := bel.trans (q.mono bel.size)
      have hz := strSize hs
      have hz2 : s.size ≤ 36 := by have := setT_len HSO.out; omega
      have HS := Lib.hid hs
      clear hs hz
      go_wp2_with fail
      go_ret
      exact ⟨_, rfl, by rw [HF.out]; exact strApp rfl HS.out, bel2⟩
    · rw [if_neg (by omega), if_neg (by omega), if_neg (by omega), if_neg (by omega), if_pos hk] at hnd
      obtain ⟨sv, rfl, hsv⟩ := hnd
      have HSV := Lib.hid hsv
      obtain ⟨sa, sn, sc, rfl, _⟩ := hsv
      have HF := Lib.hid (show fmtK k = [117, 105, 100, 32] ++ setT k.set by rw [fmtK_leaf (g4 (by omega))]; unfold headK; rw [if_neg (by omega), if_neg (by omega), if_neg (by omega), if_neg (by omega), if_pos hk])
      have hso := node_set HNO.out (.inr hk)
      have HSO := Lib.hid hso
      have hz3 : (⟨#[117, 105, 100, 32]⟩ : ByteArray).size = 4 := rfl
      clear g0 g7 g4 g5 g6 IH hso
      have q1 := ask_has 65 (by decide)
      have q2 := ask_text 65 (by decide)
      have q3 := ask_place 65 (by decide)
      have q4 := tell_uid
      have bel : Below w.heap.size w (w.alloc (.cells #[.slice sa sn sc] 65)) := by go_grown
      go_enter Tryd.func22, Tryd.ntmps22
      go_wp2_with fail
      refine (implSetText_any k.set _ S _ (HSV.out.below HN.out bel) (HN.out.below bel) HSO.out).mono ?_
      rintro e w2 ⟨s, rfl, hs, q⟩
      have bel2 := bel.trans (q.mono bel.size)
      have hz := strSize hs
      have hz2 : s.size ≤ 36 := by have := setT_len HSO.out; omega
      have HS := Lib.hid hs
      clear hs hz
      go_wp2_with fail
      go_ret
      exact ⟨_, rfl, by rw [HF.out]; exact strApp rfl HS.out, bel2⟩
    · rw [if_neg (by omega), if_neg (by omega), if_neg (by omega), if_neg (by omega), if_neg (by omega), if_pos hk] at hnd
      obtain ⟨h0, x, rfl, hx⟩ := hnd
      have HX := Lib.hid hx
      obtain ⟨ti, xi, rfl⟩ := hx.iface
      have HF := Lib.hid (fmt_not hk (g5 hk) h0)
      have HC := Lib.hid (fun (W : World) (q : Below w.heap.size w W) => IH.out _ (List.getElem_mem h0) _ S W (HX.out.below HN.out q) (HN.out.below q) (HNA.out.below q))
      have hzl := LEN.out _ (List.getElem_mem h0)
      generalize k.keys[0] = c at *
      have hz4 : (⟨#[110, 111, 116, 32]⟩ : ByteArray).size = 4 := rfl
      clear g0 g7 g4 g5 g6 IH
      have q1 := ask_has 67 (by decide)
      have q2 := ask_text 67 (by decide)
      have q3 := ask_place 67 (by decide)
      have q4 := ask_uid 67 (by decide)
      have q5 := tell_not
      have bel : Below w.heap.size w (w.alloc (.cells #[.iface ti xi] 67)) := by go_grown
      go_enter Tryd.func22, Tryd.ntmps22
      go_wp2_with fail
      refine (HC.out _ bel).mono ?_
      rintro e w2 ⟨s, rfl, hs, q⟩
      have bel2 := bel.trans (q.mono bel.size)
      have hz := strSize hs
      have HS := Lib.hid hs
      clear hs
      go_wp2_with fail
      go_ret
      exact ⟨_, rfl, by rw [HF.out]; exact strApp rfl HS.out, bel2⟩
    · rw [if_neg (by omega), if_neg (by omega), if_neg (by omega), if_neg (by omega), if_neg (by omega), if_neg (by omega)] at hnd
      obtain ⟨h1, x, y, rfl, hx, hy⟩ := hnd
      have HX := Lib.hid hx; have HY := Lib.hid hy
      obtain ⟨ti, xi, rfl⟩ := hx.iface
      obtain ⟨tj, yj, rfl⟩ := hy.iface
      have HF := Lib.hid (fmt_two hk.1 (g6 hk.1) h1)
      have HC := Lib.hid (fun (W : World) (q : Below w.heap.size w W) => IH.out _ (List.getElem_mem (Nat.lt_of_succ_lt h1)) _ S W (HX.out.below HN.out q) (HN.out.below q) (HNA.out.below q))
      have HD := Lib.hid (fun (W : World) (q : Below w.heap.size w W) => IH.out _ (List.getElem_mem h1) _ S W (HY.out.below HN.out q) (HN.out.below q) (HNA.out.below q))
      have hzl := LEN.out _ (List.getElem_mem (Nat.lt_of_succ_lt h1))
      have hzr := LEN.out _ (List.getElem_mem h1)
      generalize k.keys[0] = c at *
      generalize k.keys[1] = d at *
      have hz4 : (⟨#[97, 110, 100, 32]⟩ : ByteArray).size = 4 := rfl
      have hz3 : (⟨#[111, 114, 32]⟩ : ByteArray).size = 3 := rfl
      have hz1 : (⟨#[32]⟩ : ByteArray).size = 1 := rfl
      clear g0 g7 g4 g5 g6 IH LEN hx hy
      have q1 := ask_has 69 (by decide)
      have q2 := ask_text 69 (by decide)
      have q3 := ask_place 69 (by decide)
      have q4 := ask_uid 69 (by decide)
      have q5 := ask_not 69 (by decide)
      have q6 := tell_pair
      obtain ⟨w1, hw1⟩ : ∃ w1, w1 = w.alloc (.cells #[.bool (k.kind == 6), .iface ti xi, .iface tj yj] 69) := ⟨_, rfl⟩
      have bel : Below w.heap.size w w1 := by rw [hw1]; go_grown
      have e0 : w1.cell? ⟨w.heap.size, 0, none⟩ = some (.bool (k.kind == 6)) := by rw [hw1]; exact cell_of_block (j := 0) (heap_alloc_new w _) rfl
      have e1 : w1.cell? ⟨w.heap.size, 1, none⟩ = some (.iface ti xi) := by rw [hw1]; exact cell_of_block (j := 1) (heap_alloc_new w _) rfl
      have e2 : w1.cell? ⟨w.heap.size, 2, none⟩ = some (.iface tj yj) := by rw [hw1]; exact cell_of_block (j := 2) (heap_alloc_new w _) rfl
      have HW := Lib.hid hw1
      clear hw1
      obtain ⟨hd, hhd, hhz, hhs⟩ : ∃ hd : ByteArray, (if k.kind = 6 then (⟨#[97, 110, 100, 32]⟩ : ByteArray) else ⟨#[111, 114, 32]⟩) = hd ∧ hd.size ≤ 4 ∧ StrIs hd (if k.kind = 6 then ([97, 110, 100, 32] : List UInt8) else [111, 114, 32]) := by
        by_cases h6 : k.kind = 6
        · exact ⟨_, rfl, by rw [if_pos h6]; decide, by rw [if_pos h6, if_pos h6]; rfl⟩
        · exact ⟨_, rfl, by rw [if_neg h6]; decide, by rw [if_neg h6, if_neg h6]; rfl⟩
      have HHS := Lib.hid hhs
      clear hhs
      go_enter Tryd.func22, Tryd.ntmps22
      by_cases h6 : k.kind = 6
      · rw [if_pos h6] at hhd
        have hb : (k.kind == 6) = true := beq_iff_eq.2 h6
        rw [hb] at e0 HW ⊢
        go_upto_region 20 with fail
        rw [← HW.out]
        go_wp2_with fail
        rw [hhd]
        clear HW e0
        go_region_held3 (fun W => W.cell? ⟨w.heap.size, 1, none⟩ = some (.iface ti xi) ∧ W.cell? ⟨w.heap.size, 2, none⟩ = some (.iface tj yj)) (first | exact ⟨e1, e2⟩ | (go_keep; done))
          (first
          | ((fail_if_success (have hx := HS1)); go_at_call 22; refine (HC.out _ (bel.trans (by go_grown))).mono ?_; rintro e wa ⟨s1, rfl, hs1, qa⟩; have ba : Below w.heap.size w wa := bel.trans (Below.trans (by go_grown) (qa.mono (by first | exact bel.size | (show _ ≤ w1.heap.size; exact bel.size)))); have e1 := (qa.cell (p := ⟨w.heap.size, _, none⟩) (World.block_lt_of_cell? _ _ e1)).trans e1; have e2 := (qa.cell (p := ⟨w.heap.size, _, none⟩) (World.block_lt_of_cell? _ _ e2)).trans e2; have hzs1 : s1.size ≤ 60000 := (by rw [strSize hs1]; exact hzl); have t1 : ¬ 9223372036854775807 < hd.size + s1.size := (by omega); have t2 : ¬ 9223372036854775807 < hd.size + s1.size + 1 := (by omega); have HS1 := Lib.hid hs1; have BA := Lib.hid ba; clear hs1 qa ba)
          | (have hx := HS1; go_at_call 22; refine (HD.out _ (BA.out.trans (by go_grown))).mono ?_; rintro e wb ⟨s2, rfl, hs2, qb⟩; have bb : Below w.heap.size w wb := BA.out.trans (Below.trans (by go_grown) (qb.mono (by first | exact BA.out.size | (show _ ≤ wa.heap.size; exact BA.out.size)))); have e1 := (qb.cell (p := ⟨w.heap.size, _, none⟩) (World.block_lt_of_cell? _ _ e1)).trans e1; have e2 := (qb.cell (p := ⟨w.heap.size, _, none⟩) (World.block_lt_of_cell? _ _ e2)).trans e2; have hzs2 : s2.size ≤ 60000 := (by rw [strSize hs2]; exact hzr); have t3 : ¬ 9223372036854775807 < hd.size + s1.size + 1 + s2.size := (by omega); have HS2 := Lib.hid hs2; have BB := Lib.hid bb; clear hx hs2 qb bb))
        go_wp2_with fail
        go_ret
        exact ⟨_, rfl, by rw [HF.out]; exact strApp (strApp (strApp HHS.out HS1.out) rfl) HS2.out, BB.out⟩
      · rw [if_neg h6] at hhd
        have hb : (k.kind == 6) = false := beq_eq_false_iff_ne.2 h6
        rw [hb] at e0 HW ⊢
        go_upto_region 20 with fail
        rw [← HW.out]
        go_wp2_with fail
        rw [hhd]
        clear HW e0
        go_region_held3 (fun W => W.cell? ⟨w.heap.size, 1, none⟩ = some (.iface ti xi) ∧ W.cell? ⟨w.heap.size, 2, none⟩ = some (.iface tj yj)) (first | exact ⟨e1, e2⟩ | (go_keep; done))
          (first
          | ((fail_if_success (have hx := HS1)); go_at_call 22; refine (HC.out _ (bel.trans (by go_grown))).mono ?_; rintro e wa ⟨s1, rfl, hs1, qa⟩; have ba : Below w.heap.size w wa := bel.trans (Below.trans (by go_grown) (qa.mono (by first | exact bel.size | (show _ ≤ w1.heap.size; exact bel.size)))); have e1 := (qa.cell (p := ⟨w.heap.size, _, none⟩) (World.block_lt_of_cell? _ _ e1)).trans e1; have e2 := (qa.cell (p := ⟨w.heap.size, _, none⟩) (World.block_lt_of_cell? _ _ e2)).trans e2; have hzs1 : s1.size ≤ 60000 := (by rw [strSize hs1]; exact hzl); have t1 : ¬ 9223372036854775807 < hd.size + s1.size := (by omega); have t2 : ¬ 9223372036854775807 < hd.size + s1.size + 1 := (by omega); have HS1 := Lib.hid hs1; have BA := Lib.hid ba; clear hs1 qa ba)
          | (have hx := HS1; go_at_call 22; refine (HD.out _ (BA.out.trans (by go_grown))).mono ?_; rintro e wb ⟨s2, rfl, hs2, qb⟩; have bb : Below w.heap.size w wb := BA.out.trans (Below.trans (by go_grown) (qb.mono (by first | exact BA.out.size | (show _ ≤ wa.heap.size; exact BA.out.size)))); have e1 := (qb.cell (p := ⟨w.heap.size, _, none⟩) (World.block_lt_of_cell? _ _ e1)).trans e1; have e2 := (qb.cell (p := ⟨w.heap.size, _, none⟩) (World.block_lt_of_cell? _ _ e2)).trans e2; have hzs2 : s2.size ≤ 60000 := (by rw [strSize hs2]; exact hzr); have t3 : ¬ 9223372036854775807 < hd.size + s1.size + 1 + s2.size := (by omega); have HS2 := Lib.hid hs2; have BB := Lib.hid bb; clear hx hs2 qb bb))
        go_wp2_with fail
        go_ret
        exact ⟨_, rfl, by rw [HF.out]; exact strApp (strApp (strApp HHS.out HS1.out) rfl) HS2.out, BB.out⟩
end Go.Proofs.YtgcdopmidmelfaaDoor

/- WALKS: the program's text of flags: names out of a table, joined by blanks. -/
import Derived.Test.YtbmpbkidjcaogaaDoorText
import Derived.Test.YtbmpbkidjcaogaaDoorFlags3
import Derived.Test.YtbmpbkidjcaogaaDoorShelf
namespace Go.Proofs.YtbmpbkidjcaogaaDoor
open Go.RowKit
set_option linter.unusedVariables false

/-- The table of names lies where its initialiser laid it. -/
def Names (w : World) : Prop := ∃ t fz, w.heap[0]? = some (.cells namesCells t fz)
theorem Names.below {w w' : World} (h : Names w) (hb : Below w.heap.size w w') : Names w' := by
  obtain ⟨t, fz, h⟩ := h
  exact ⟨t, fz, (hb.block _ (lt_of_block h)).trans h⟩

def nmB (k : Nat) : ByteArray := ⟨(nm k).toArray⟩
def namesTo (f : Nat) : Nat → List ByteArray
  | 0 => []
  | k + 1 => namesTo f k ++ if f / 2 ^ k % 2 = 1 then [nmB k] else []
theorem namesTo_len (f k : Nat) : (namesTo f k).length ≤ k := by
  induction k with
  | zero => simp [namesTo]
  | succ k ih => simp only [namesTo, List.length_append]; split <;> simp <;> omega
theorem joined : ∀ f, f < 32 → [40] ++ Lib.join ((namesTo f 5).map (·.data.toList)) [32] ++ [41] = txtTo f 5 ++ [41] := by decide +kernel
theorem joined_len : ∀ f, f < 32 → (Lib.join ((namesTo f 5).map (·.data.toList)) [32]).length ≤ 100 := by decide +kernel
theorem bit0 : ∀ f : Nat, f < 32 → (bits .and .i64 (f : Int) 1 != 0) = decide (f / 2 ^ 0 % 2 = 1) := by decide +kernel
theorem bit1 : ∀ f : Nat, f < 32 → (bits .and .i64 (f : Int) 2 != 0) = decide (f / 2 ^ 1 % 2 = 1) := by decide +kernel
theorem bit2 : ∀ f : Nat, f < 32 → (bits .and .i64 (f : Int) 4 != 0) = decide (f / 2 ^ 2 % 2 = 1) := by decide +kernel
theorem bit3 : ∀ f : Nat, f < 32 → (bits .and .i64 (f : Int) 8 != 0) = decide (f / 2 ^ 3 % 2 = 1) := by decide +kernel
theorem bit4 : ∀ f : Nat, f < 32 → (bits .and .i64 (f : Int) 16 != 0) = decide (f / 2 ^ 4 % 2 = 1) := by decide +kernel

theorem Tryd.infoStr : (Tryd.prog.info? 9).map (fun i => (i.zero, i.size, i.bytes)) = some (some (.string ⟨#[]⟩), 1, 16) := by kernel_rfl
theorem nameAt0 (w : World) : (Instr.index 45 (.agg namesCells) (.int .i64 0)).run Tryd.prog w = .ok (.string (nmB 0)) w := by kernel_rfl
theorem nameAt1 (w : World) : (Instr.index 45 (.agg namesCells) (.int .i64 1)).run Tryd.prog w = .ok (.string (nmB 1)) w := by kernel_rfl
theorem nameAt2 (w : World) : (Instr.index 45 (.agg namesCells) (.int .i64 2)).run Tryd.prog w = .ok (.string (nmB 2)) w := by kernel_rfl
theorem nameAt3 (w : World) : (Instr.index 45 (.agg namesCells) (.int .i64 3)).run Tryd.prog w = .ok (.string (nmB 3)) w := by kernel_rfl
theorem nameAt4 (w : World) : (Instr.index 45 (.agg namesCells) (.int .i64 4)).run Tryd.prog w = .ok (.string (nmB 4)) w := by kernel_rfl

set_option maxHeartbeats 400000 in
theorem implFlagsText_any (f : Int) (w : World) (hN : Names w) :
    Calls Tryd.prog 12 #[.int .i64 f] w fun e w' => ∃ s, e = .returned (.string s) ∧ StrIs s (flagsTxt f) ∧ Below w.heap.size w w' := by
  rcases hf : fok f with _ | _
  · have hc : flagsTxt f = [] := by simp [flagsTxt, hf]
    have HC := Lib.hid hc; clear hc
    go_enter Tryd.func12, Tryd.ntmps12
    go_wp2_with (go_at_call 25; refine (flagsValid_any _ _).mono ?_; rintro e w' ⟨rfl, rfl⟩)
    go_ret
    exact ⟨_, rfl, by rw [HC.out]; rfl, Below.refl _ _⟩
  · have hb := (fok_iff f).1 hf
    obtain ⟨a, rfl⟩ := Int.eq_ofNat_of_zero_le hb.1
    have ha : a < 32 := by omega
    have hc : flagsTxt (a : Int) = txtTo a 5 ++ [41] := by simp [flagsTxt, hf]
    have HC := Lib.hid hc; clear hc hb
    obtain ⟨t, fz, hg⟩ := hN
    have hgl := lt_of_block hg
    obtain ⟨i0, hi, hz0, hz1, hz2⟩ := info_parts Tryd.infoStr
    have hg1 : ∀ o, (w.alloc o).heap[0]? = some (.cells namesCells t fz) := fun o => (Below.heap_alloc w o _ hgl).trans hg
    go_enter Tryd.func12, Tryd.ntmps12
    go_wp2_with (first | (go_at_call 25; refine (flagsValid_any _ _).mono ?_; rintro e w' ⟨rfl, rfl⟩) | (refine wpList_load_row rfl 45 _ rfl 0 rfl t namesCells fz _ (hg1 _) Tryd.underlying45 rfl (by kernel_rfl) ?_))
    go_loopw [3, 11] (fun y i wr => ∃ (n : Nat) (v : Value), n ≤ 5 ∧ i = .int .i64 n ∧ v = y ∧ wr.ownsRow w.heap.size 9 1 v (namesTo a n).length ((namesTo a n).map Value.string) ∧ Below w.heap.size w wr) (fun _ i _ => 5 - (intOf i).toNat)
    case atStart => exact ⟨0, _, by omega, rfl, rfl, World.ownsRow_made w #[] 0 (Nat.le_refl _) (by unfold maxLen; omega) rfl, (Below.refl _ _).alloc (Nat.le_refl _) _⟩
    case round =>
      obtain ⟨n, v, hn, rfl, rfl, hown, hbel⟩ := hrel
      have hnl := namesTo_len a n
      clear hg hg1
      by_cases hlt : n < 5
      · have hn5 : n = 0 ∨ n = 1 ∨ n = 2 ∨ n = 3 ∨ n = 4 := by omega
        rcases hn5 with rfl | rfl | rfl | rfl | rfl
        · have hx := nameAt0
          have hbit := bit0 a ha
          rcases hd : decide (a / 2 ^ 0 % 2 = 1) with _ | _
          · rw [hd] at hbit
            have hs : namesTo a (0 + 1) = namesTo a 0 := by
              have := of_decide_eq_false hd
              simp only [namesTo]; rw [if_neg this]; simp
            have HS := Lib.hid hs; clear hs hd
            go_wp2
            go_roundw
            case rel => exact ⟨0 + 1, _, by omega, rfl, rfl, by rw [HS.out]; exact hown, hbel⟩
            case measure => simp [intOf]
          · rw [hd] at hbit
            have hs : namesTo a (0 + 1) = namesTo a 0 ++ [nmB 0] := by
              have := of_decide_eq_true hd
              simp only [namesTo]; rw [if_pos this]
            have HS := Lib.hid hs; clear hs hd
            generalize namesTo a 0 = L at *
            go_wp2_with (at_builtin; refine wpList_append_own _ rfl _ _ 30 rfl w.heap.size 9 i0 (.string ⟨#[]⟩) 1 16 Tryd.underlying30 hi hz0 hz1 hz2 rfl (by decide) _ _ _ rfl (hown.alloc _) ⟨wr.heap.size, 0, none⟩ 1 1 [.string (nmB 0)] rfl rfl ?c1 ?c2 ?c3 ?c4 ?c5 ?_)
            case c1 => exact cell_one_new _ _ _
            case c2 => simp [Value.oneCell']
            case c3 => unfold maxLen; omega
            case c4 => omega
            case c5 => have := hbel.size; simp; omega
            intro v' w1 hown1 hgrow _
            have hlw := hown.lt
            go_wp2
            go_roundw
            case rel => exact ⟨0 + 1, _, by omega, rfl, rfl, by rw [HS.out]; simpa using hown1, (hbel.alloc hbel.size _).grown hgrow (by have := hbel.size; simp; omega) (fun k hk => (hlw k hk).1)⟩
            case measure => simp [intOf]
        · have hx := nameAt1
          have hbit := bit1 a ha
          rcases hd : decide (a / 2 ^ 1 % 2 = 1) with _ | _
          · rw [hd] at hbit
            have hs : namesTo a (1 + 1) = namesTo a 1 := by
              have := of_decide_eq_false hd
              simp only [namesTo]; rw [if_neg this]; simp
            have HS := Lib.hid hs; clear hs hd
            go_wp2
            go_roundw
            case rel => exact ⟨1 + 1, _, by omega, rfl, rfl, by rw [HS.out]; exact hown, hbel⟩
            case measure => simp [intOf]
          · rw [hd] at hbit
            have hs : namesTo a (1 + 1) = namesTo a 1 ++ [nmB 1] := by
              have := of_decide_eq_true hd
              simp only [namesTo]; rw [if_pos this]
            have HS := Lib.hid hs; clear hs hd
            generalize namesTo a 1 = L at *
            go_wp2_with (at_builtin; refine wpList_append_own _ rfl _ _ 30 rfl w.heap.size 9 i0 (.string ⟨#[]⟩) 1 16 Tryd.underlying30 hi hz0 hz1 hz2 rfl (by decide) _ _ _ rfl (hown.alloc _) ⟨wr.heap.size, 0, none⟩ 1 1 [.string (nmB 1)] rfl rfl ?c1 ?c2 ?c3 ?c4 ?c5 ?_)
            case c1 => exact cell_one_new _ _ _
            case c2 => simp [Value.oneCell']
            case c3 => unfold maxLen; omega
            case c4 => omega
            case c5 => have := hbel.size; simp; omega
            intro v' w1 hown1 hgrow _
            have hlw := hown.lt
            go_wp2
            go_roundw
            case rel => exact ⟨1 + 1, _, by omega, rfl, rfl, by rw [HS.out]; simpa using hown1, (hbel.alloc hbel.size _).grown hgrow (by have := hbel.size; simp; omega) (fun k hk => (hlw k hk).1)⟩
            case measure => simp [intOf]
        · have hx := nameAt2
          have hbit := bit2 a ha
          rcases hd : decide (a / 2 ^ 2 % 2 = 1) with _ | _
          · rw [hd] at hbit
            have hs : namesTo a (2 + 1) = namesTo a 2 := by
              have := of_decide_eq_false hd
              simp only [namesTo]; rw [if_neg this]; simp
            have HS := Lib.hid hs; clear hs hd
            go_wp2
            go_roundw
            case rel => exact ⟨2 + 1, _, by omega, rfl, rfl, by rw [HS.out]; exact hown, hbel⟩
            case measure => simp [intOf]
          · rw [hd] at hbit
            have hs : namesTo a (2 + 1) = namesTo a 2 ++ [nmB 2] := by
              have := of_decide_eq_true hd
              simp only [namesTo]; rw [if_pos this]
            have HS := Lib.hid hs; clear hs hd
            generalize namesTo a 2 = L at *
            go_wp2_with (at_builtin; refine wpList_append_own _ rfl _ _ 30 rfl w.heap.size 9 i0 (.string ⟨#[]⟩) 1 16 Tryd.underlying30 hi hz0 hz1 hz2 rfl (by decide) _ _ _ rfl (hown.alloc _) ⟨wr.heap.size, 0, none⟩ 1 1 [.string (nmB 2)] rfl rfl ?c1 ?c2 ?c3 ?c4 ?c5 ?_)
            case c1 => exact cell_one_new _ _ _
            case c2 => simp [Value.oneCell']
            case c3 => unfold maxLen; omega
            case c4 => omega
            case c5 => have := hbel.size; simp; omega
            intro v' w1 hown1 hgrow _
            have hlw := hown.lt
            go_wp2
            go_roundw
            case rel => exact ⟨2 + 1, _, by omega, rfl, rfl, by rw [HS.out]; simpa using hown1, (hbel.alloc hbel.size _).grown hgrow (by have := hbel.size; simp; omega) (fun k hk => (hlw k hk).1)⟩
            case measure => simp [intOf]
        · have hx := nameAt3
          have hbit := bit3 a ha
          rcases hd : decide (a / 2 ^ 3 % 2 = 1) with _ | _
          · rw [hd] at hbit
            have hs : namesTo a (3 + 1) = namesTo a 3 := by
              have := of_decide_eq_false hd
              simp only [namesTo]; rw [if_neg this]; simp
            have HS := Lib.hid hs; clear hs hd
            go_wp2
            go_roundw
            case rel => exact ⟨3 + 1, _, by omega, rfl, rfl, by rw [HS.out]; exact hown, hbel⟩
            case measure => simp [intOf]
          · rw [hd] at hbit
            have hs : namesTo a (3 + 1) = namesTo a 3 ++ [nmB 3] := by
              have := of_decide_eq_true hd
              simp only [namesTo]; rw [if_pos this]
            have HS := Lib.hid hs; clear hs hd
            generalize namesTo a 3 = L at *
            go_wp2_with (at_builtin; refine wpList_append_own _ rfl _ _ 30 rfl w.heap.size 9 i0 (.string ⟨#[]⟩) 1 16 Tryd.underlying30 hi hz0 hz1 hz2 rfl (by decide) _ _ _ rfl (hown.alloc _) ⟨wr.heap.size, 0, none⟩ 1 1 [.string (nmB 3)] rfl rfl ?c1 ?c2 ?c3 ?c4 ?c5 ?_)
            case c1 => exact cell_one_new _ _ _
            case c2 => simp [Value.oneCell']
            case c3 => unfold maxLen; omega
            case c4 => omega
            case c5 => have := hbel.size; simp; omega
            intro v' w1 hown1 hgrow _
            have hlw := hown.lt
            go_wp2
            go_roundw
            case rel => exact ⟨3 + 1, _, by omega, rfl, rfl, by rw [HS.out]; simpa using hown1, (hbel.alloc hbel.size _).grown hgrow (by have := hbel.size; simp; omega) (fun k hk => (hlw k hk).1)⟩
            case measure => simp [intOf]
        · have hx := nameAt4
          have hbit := bit4 a ha
          rcases hd : decide (a / 2 ^ 4 % 2 = 1) with _ | _
          · rw [hd] at hbit
            have hs : namesTo a (4 + 1) = namesTo a 4 := by
              have := of_decide_eq_false hd
              simp only [namesTo]; rw [if_neg this]; simp
            have HS := Lib.hid hs; clear hs hd
            go_wp2
            go_roundw
            case rel => exact ⟨4 + 1, _, by omega, rfl, rfl, by rw [HS.out]; exact hown, hbel⟩
            case measure => simp [intOf]
          · rw [hd] at hbit
            have hs : namesTo a (4 + 1) = namesTo a 4 ++ [nmB 4] := by
              have := of_decide_eq_true hd
              simp only [namesTo]; rw [if_pos this]
            have HS := Lib.hid hs; clear hs hd
            generalize namesTo a 4 = L at *
            go_wp2_with (at_builtin; refine wpList_append_own _ rfl _ _ 30 rfl w.heap.size 9 i0 (.string ⟨#[]⟩) 1 16 Tryd.underlying30 hi hz0 hz1 hz2 rfl (by decide) _ _ _ rfl (hown.alloc _) ⟨wr.heap.size, 0, none⟩ 1 1 [.string (nmB 4)] rfl rfl ?c1 ?c2 ?c3 ?c4 ?c5 ?_)
            case c1 => exact cell_one_new _ _ _
            case c2 => simp [Value.oneCell']
            case c3 => unfold maxLen; omega
            case c4 => omega
            case c5 => have := hbel.size; simp; omega
            intro v' w1 hown1 hgrow _
            have hlw := hown.lt
            go_wp2
            go_roundw
            case rel => exact ⟨4 + 1, _, by omega, rfl, rfl, by rw [HS.out]; simpa using hown1, (hbel.alloc hbel.size _).grown hgrow (by have := hbel.size; simp; omega) (fun k hk => (hlw k hk).1)⟩
            case measure => simp [intOf]
      · have : n = 5 := by omega
        subst this
        have hj := joined a ha
        have hjl := joined_len a ha
        generalize namesTo a 5 = L at *
        have HJ := Lib.hid hj; clear hj
        have hfin : ∀ s : ByteArray, StrIs s (Lib.join (L.map (·.data.toList)) [32]) → StrIs (((⟨#[40]⟩ : ByteArray) ++ s) ++ ⟨#[41]⟩) (flagsTxt (a : Int)) := fun s hs => by
          rw [HC.out, ← HJ.out]
          exact ((show StrIs ⟨#[40]⟩ [40] from rfl).append hs).append (show StrIs ⟨#[41]⟩ [41] from rfl)
        have HF := Lib.hid hfin; clear hfin
        have hcells := fun g (hg : v.ownBlock = some g) => hown.cells hg
        have hlw := hown.lt
        rcases hown.2 with ⟨rfl, h0⟩ | ⟨g, cap, cur, rfl, hbg, hg, hnc, hcm, _, _⟩
        · obtain rfl : L = [] := List.eq_nil_of_length_eq_zero h0
          clear hown hcells
          go_wp2_with fail
          refine (Tryd.strings_Join_none none 0 _ _).mono ?_
          rintro e w' ⟨rfl, rfl⟩
          go_wp2_with fail
          go_ret
          exact ⟨_, rfl, HF.out _ rfl, hbel⟩
        · have hc : ∀ (j : Nat) x, L[j]? = some x → wr.cell? ⟨g, 0 + j, none⟩ = some (.string x) := by
            intro j x hx
            have := hcells g rfl j (.string x) (by rw [List.getElem?_map, hx]; rfl)
            cases j with
            | zero => simpa [Addr.add] using this
            | succ j => simpa [Addr.add] using this
          have HJC := Lib.hid hc
          have hgw := (hlw g rfl).2
          clear hown hcells hc hlw
          go_wp2_with fail
          refine (Tryd.strings_Join g 0 cap L ⟨#[32]⟩ _ HJC.out hgw (by omega) hnc (by have := hjl; show (Lib.join _ [32]).length ≤ _; omega)).mono ?_
          rintro e w' ⟨rfl, hq⟩
          go_wp2_with fail
          go_ret
          exact ⟨_, rfl, HF.out _ (StrIs.mk _), hbel.trans (hq.mono hbel.size)⟩
end Go.Proofs.YtbmpbkidjcaogaaDoor

/- WALKS: the small functions of a search: a text in a text, a number in a set. -/
import Derived.Test.YtlkfaamjbecieaaDoorKFind
import Derived.Test.YtlkfaamjbecieaaDoorKSpec
import Derived.Lib.IndexMore
namespace Go.Proofs.YtlkfaamjbecieaaDoor
open Go.RowKit
set_option linter.unusedVariables false

theorem partAt_contains : ∀ (s p : List UInt8), Lib.contains s p = partAt s p
  | [], p => by
    cases p with
    | nil => rfl
    | cons a t => rfl
  | b :: l, p => by
    have ih := partAt_contains l p
    unfold Lib.contains at ih ⊢
    have e : partAt (b :: l) p = (p.isPrefixOf (b :: l) || partAt l p) := by rw [partAt]
    rw [Lib.index, e, ← ih]
    rcases h : p.isPrefixOf (b :: l) with _ | _
    · have := Lib.index_ge l p
      by_cases h1 : Lib.index l p = -1
      · simp [h1]
      · have : (Lib.index l p == -1) = false := by simpa using h1
        simp [this]; omega
    · simp
theorem partAt_here {s p : List UInt8} (h : p.isPrefixOf s = true) : partAt s p = true := by
  unfold partAt; simp [h]
theorem partAt_next {s p : List UInt8} {n : Nat} (hn : n < s.length) (h : p.isPrefixOf (s.drop n) = false) : partAt (s.drop n) p = partAt (s.drop (n + 1)) p := by
  rw [List.drop_eq_getElem_cons hn] at h ⊢
  rw [partAt, h]; rfl
theorem partAt_short : ∀ (s p : List UInt8), s.length < p.length → partAt s p = false
  | [], p, h => by
    cases p with
    | nil => simp at h
    | cons a t => rfl
  | b :: l, p, h => by
    have hp : p.isPrefixOf (b :: l) = false := by
      rcases hh : p.isPrefixOf (b :: l) with _ | _
      · rfl
      · have := (List.isPrefixOf_iff_prefix.1 hh).length_le; omega
    rw [partAt, hp, partAt_short l p (by simp at h; omega)]; rfl
theorem pre_of (s p : ByteArray) (n : Nat) (h : n + p.size ≤ s.size) : p.data.toList.isPrefixOf (s.data.toList.drop n) = decide ((s.extract n (n + p.size)).toList = p.toList) := by
  rw [ByteArray.toList_eq, ByteArray.toList_eq, ByteArray.data_extract, Bool.eq_iff_iff, decide_eq_true_eq, List.isPrefixOf_iff_prefix, List.prefix_iff_eq_take, Array.toList_extract]
  have hl : p.data.toList.length = p.size := by simp
  rw [hl]
  show _ ↔ (s.data.toList.extract n (n + p.size)) = _
  rw [List.extract_eq_take_drop, Nat.add_sub_cancel_left]
  exact eq_comm
theorem any_take_yes {α : Type} (p : α → Bool) {l : List α} {n : Nat} (h : n < l.length) (h1 : p l[n] = true) : l.any p = true := List.any_eq_true.2 ⟨l[n], List.getElem_mem h, h1⟩
theorem any_take_no {α : Type} (p : α → Bool) {l : List α} {n : Nat} (h : n < l.length) (h0 : (l.take n).any p = false) (h1 : p l[n] = false) : (l.take (n + 1)).any p = false := by
  rw [List.take_succ_eq_append_getElem h, List.any_append, h0]; simp [h1]
theorem span_has (last n x y : Int) : spanHas last n (x, y) = (decide (min (if x = 0 then last else x) (if y = 0 then last else y) ≤ n) && decide (n ≤ max (if x = 0 then last else x) (if y = 0 then last else y))) := rfl
set_option maxHeartbeats 400000 in
theorem l12Contains_any (s p : ByteArray) (w : World) (hs : s.size ≤ 1000000000) (hp : p.size ≤ 1000000000) :
    Calls Tryd.prog 53 #[.string s, .string p] w fun e w' => e = .returned (.bool (partAt s.data.toList p.data.toList)) ∧ w = w' := by
  go_enter Tryd.func53, Tryd.ntmps53
  go_wp2_with fail
  go_loop [5] (fun i => ∃ n : Nat, n ≤ s.size ∧ i = .int .i64 n ∧ Hid (partAt (s.data.toList.drop n) p.data.toList = partAt s.data.toList p.data.toList)) (fun i => s.size - (intOf i).toNat)
  case atStart => exact ⟨0, by omega, rfl, by show _ = _; simp⟩
  case round =>
    obtain ⟨n, hn, rfl, HA⟩ := hrel
    by_cases hlt : n + p.size ≤ s.size
    · have hpre := pre_of s p n hlt
      have hI : (n : Int) + (p.size : Int) ≤ (s.size : Int) := by omega
      by_cases heq : (s.extract n (n + p.size)).toList = p.toList
      · have hr : partAt s.data.toList p.data.toList = true := by
          rw [← HA.out]; exact partAt_here (by rw [hpre]; simp [heq])
        have HR := Lib.hid hr
        have hbq : ((s.extract n (n + p.size)).toList == p.toList) = true := by rw [heq]; exact beq_self_eq_true _
        clear hr hpre heq
        go_wp2_with fail
        go_ret
        exact ⟨ret_bool HR.out.symm, rfl⟩
      · have hns : n < s.size := by
          rcases Nat.lt_or_ge n s.size with h | h
          · exact h
          · exfalso; apply heq
            have h0 : p.size = 0 := by omega
            have h1 : (s.extract n (n + p.size)).size = 0 := by simp [h0]
            rw [(size_nil _).1 h1, (size_nil _).1 h0]
        have hr : partAt (s.data.toList.drop (n + 1)) p.data.toList = partAt s.data.toList p.data.toList := by
          rw [← HA.out]; exact (partAt_next (by simpa using hns) (by rw [hpre]; simp [heq])).symm
        have HR := Lib.hid hr
        have hbq : ((s.extract n (n + p.size)).toList == p.toList) = false := beq_eq_false_iff_ne.2 heq
        clear hr hpre heq
        go_wp2_with fail
        go_round
        case rel => exact ⟨n + 1, by omega, by go_num, HR.out⟩
        case measure => simp [intOf]; omega
    · have hr : partAt s.data.toList p.data.toList = false := by
        rw [← HA.out]; exact partAt_short _ _ (by simp; omega)
      have HR := Lib.hid hr
      have hI : (s.size : Int) < (n : Int) + (p.size : Int) := by omega
      clear hr
      go_wp2_with fail
      go_ret
      exact ⟨ret_bool HR.out.symm, rfl⟩
set_option maxHeartbeats 400000 in
theorem lawContains_any (s p : ByteArray) (w : World) (hs : s.size ≤ 1000000000) (hp : p.size ≤ 1000000000) :
    Calls Tryd.prog 20 #[.string s, .string p] w fun e w' => e = .returned (.bool (partAt s.data.toList p.data.toList)) ∧ w = w' := by
  go_enter Tryd.func20, Tryd.ntmps20
  go_wp2_with fail
  go_loop [5] (fun i => ∃ n : Nat, n ≤ s.size ∧ i = .int .i64 n ∧ Hid (partAt (s.data.toList.drop n) p.data.toList = partAt s.data.toList p.data.toList)) (fun i => s.size - (intOf i).toNat)
  case atStart => exact ⟨0, by omega, rfl, by show _ = _; simp⟩
  case round =>
    obtain ⟨n, hn, rfl, HA⟩ := hrel
    by_cases hlt : n + p.size ≤ s.size
    · have hpre := pre_of s p n hlt
      have hI : (n : Int) + (p.size : Int) ≤ (s.size : Int) := by omega
      by_cases heq : (s.extract n (n + p.size)).toList = p.toList
      · have hr : partAt s.data.toList p.data.toList = true := by
          rw [← HA.out]; exact partAt_here (by rw [hpre]; simp [heq])
        have HR := Lib.hid hr
        have hbq : ((s.extract n (n + p.size)).toList == p.toList) = true := by rw [heq]; exact beq_self_eq_true _
        clear hr hpre heq
        go_wp2_with fail
        go_ret
        exact ⟨ret_bool HR.out.symm, rfl⟩
      · have hns : n < s.size := by
          rcases Nat.lt_or_ge n s.size with h | h
          · exact h
          · exfalso; apply heq
            have h0 : p.size = 0 := by omega
            have h1 : (s.extract n (n + p.size)).size = 0 := by simp [h0]
            rw [(size_nil _).1 h1, (size_nil _).1 h0]
        have hr : partAt (s.data.toList.drop (n + 1)) p.data.toList = partAt s.data.toList p.data.toList := by
          rw [← HA.out]; exact (partAt_next (by simpa using hns) (by rw [hpre]; simp [heq])).symm
        have HR := Lib.hid hr
        have hbq : ((s.extract n (n + p.size)).toList == p.toList) = false := beq_eq_false_iff_ne.2 heq
        clear hr hpre heq
        go_wp2_with fail
        go_round
        case rel => exact ⟨n + 1, by omega, by go_num, HR.out⟩
        case measure => simp [intOf]; omega
    · have hr : partAt s.data.toList p.data.toList = false := by
        rw [← HA.out]; exact partAt_short _ _ (by simp; omega)
      have HR := Lib.hid hr
      have hI : (s.size : Int) < (n : Int) + (p.size : Int) := by omega
      clear hr
      go_wp2_with fail
      go_ret
      exact ⟨ret_bool HR.out.symm, rfl⟩
theorem l6In_at (n lo hi : Int) (d : Bool) (w : World) (h : (decide (lo ≤ n) && decide (n ≤ hi)) = d) :
    Calls Tryd.prog 36 #[.int .i64 n, .int .i64 lo, .int .i64 hi] w fun e w' => e = .returned (.bool d) ∧ w = w' := by
  subst h; exact l6In_any n lo hi w
set_option maxHeartbeats 400000 in
theorem l3Has_any (l : List (Int × Int)) (last x : Int) (v : Value) (S : Nat → Prop) (w : World) (h : SetAt w S v l) :
    Calls Tryd.prog 54 #[v, .int .i64 last, .int .i64 x] w fun e w' => e = .returned (.bool (setHas l last x)) ∧ w = w' := by
  obtain ⟨a, L, cap, rfl, hL, hcap, ⟨hmax, _⟩, hmail⟩ := h
  have HL := Lib.hid hL
  clear hL
  go_enter Tryd.func54, Tryd.ntmps54
  go_wp2_with fail
  go_loop [7] (fun i => ∃ n : Nat, n ≤ L ∧ i = .int .i64 n ∧ Hid ((l.take n).any (spanHas last x) = false)) (fun i => L - (intOf i).toNat)
  case atStart => exact ⟨0, by omega, rfl, by show _ = _; simp⟩
  case round =>
    obtain ⟨n, hn, rfl, HA⟩ := hrel
    by_cases hlt : n < L
    · rcases hmail with h0 | ⟨g, off, rfl, hg, hcells⟩
      · omega
      have hlt' : n < l.length := by rw [HL.out]; exact hlt
      have hyes := any_take_yes (spanHas last x) hlt'
      have hno := any_take_no (spanHas last x) hlt' HA.out
      have hm := List.getElem?_eq_getElem hlt'
      generalize l[n] = s at hm hyes hno
      obtain ⟨c0, c1⟩ := hcells n _ hm
      obtain ⟨y, z⟩ := s
      dsimp only at c0 c1
      have hnI : (n : Int) < (L : Int) := by omega
      have hsp := span_has last x y z
      obtain ⟨d, hd⟩ : ∃ d, spanHas last x (y, z) = d := ⟨_, rfl⟩
      rw [hd] at hyes hno hsp
      have HY := Lib.hid hyes; have HN := Lib.hid hno
      clear hcells hm hyes hno hd
      by_cases hy : y = 0
      · by_cases hz : z = 0
        · rw [if_pos hy, if_pos hz] at hsp
          have HS := Lib.hid hsp
          subst hy; subst hz
          clear hsp
          go_wp2_with fail
          all_goals refine (l6In_at _ _ _ d _ (by rw [HS.out]; congr 1 <;> exact decide_eq_decide.2 (by omega))).mono ?_
          all_goals rintro e w' ⟨rfl, rfl⟩
          all_goals clear HS
          all_goals (rcases d with _ | _)
          all_goals
            first
            | (have HR := Lib.hid (HN.out rfl)
               clear HN HY
               go_wp2_with fail
               go_round
               case rel => exact ⟨n + 1, by omega, by go_num, HR.out⟩
               case measure => simp [intOf]; omega)
            | (have HR := Lib.hid (show setHas l last x = true from HY.out rfl)
               clear HN HY
               go_wp2_with fail
               go_ret
               exact ⟨ret_bool HR.out.symm, rfl⟩)
        · rw [if_pos hy, if_neg hz] at hsp
          have HS := Lib.hid hsp
          subst hy
          clear hsp
          go_wp2_with fail
          all_goals refine (l6In_at _ _ _ d _ (by rw [HS.out]; congr 1 <;> exact decide_eq_decide.2 (by omega))).mono ?_
          all_goals rintro e w' ⟨rfl, rfl⟩
          all_goals clear HS
          all_goals (rcases d with _ | _)
          all_goals
            first
            | (have HR := Lib.hid (HN.out rfl)
               clear HN HY
               go_wp2_with fail
               go_round
               case rel => exact ⟨n + 1, by omega, by go_num, HR.out⟩
               case measure => simp [intOf]; omega)
            | (have HR := Lib.hid (show setHas l last x = true from HY.out rfl)
               clear HN HY
               go_wp2_with fail
               go_ret
               exact ⟨ret_bool HR.out.symm, rfl⟩)
      · by_cases hz : z = 0
        · rw [if_neg hy, if_pos hz] at hsp
          have HS := Lib.hid hsp
          subst hz
          clear hsp
          go_wp2_with fail
          all_goals refine (l6In_at _ _ _ d _ (by rw [HS.out]; congr 1 <;> exact decide_eq_decide.2 (by omega))).mono ?_
          all_goals rintro e w' ⟨rfl, rfl⟩
          all_goals clear HS
          all_goals (rcases d with _ | _)
          all_goals
            first
            | (have HR := Lib.hid (HN.out rfl)
               clear HN HY
               go_wp2_with fail
               go_round
               case rel => exact ⟨n + 1, by omega, by go_num, HR.out⟩
               case measure => simp [intOf]; omega)
            | (have HR := Lib.hid (show setHas l last x = true from HY.out rfl)
               clear HN HY
               go_wp2_with fail
               go_ret
               exact ⟨ret_bool HR.out.symm, rfl⟩)
        · rw [if_neg hy, if_neg hz] at hsp
          have HS := Lib.hid hsp
          clear hsp
          go_wp2_with fail
          all_goals refine (l6In_at _ _ _ d _ (by rw [HS.out]; congr 1 <;> exact decide_eq_decide.2 (by omega))).mono ?_
          all_goals rintro e w' ⟨rfl, rfl⟩
          all_goals clear HS
          all_goals (rcases d with _ | _)
          all_goals
            first
            | (have HR := Lib.hid (HN.out rfl)
               clear HN HY
               go_wp2_with fail
               go_round
               case rel => exact ⟨n + 1, by omega, by go_num, HR.out⟩
               case measure => simp [intOf]; omega)
            | (have HR := Lib.hid (show setHas l last x = true from HY.out rfl)
               clear HN HY
               go_wp2_with fail
               go_ret
               exact ⟨ret_bool HR.out.symm, rfl⟩)
    · have hnn : n = L := by omega
      have hall : setHas l last x = false := by have := HA.out; rwa [hnn, ← HL.out, List.take_length] at this
      have HR := Lib.hid hall
      clear hall hmail
      go_wp2_with fail
      go_ret
      exact ⟨ret_bool HR.out.symm, rfl⟩
end Go.Proofs.YtlkfaamjbecieaaDoor

/- WALKS: the reference's validity of a key. -/
import Derived.Test.YtgcdopmidmelfaaDoorKLeaf3
namespace Go.Proofs.YtgcdopmidmelfaaDoor
open Go.RowKit
set_option linter.unusedVariables false

theorem KeyAt.open {w : World} {S : Nat → Prop} {k : K} {v : Value} (h : KeyAt w S k v) : ∃ sa sn sc a n cap, v = .agg #[.int .i64 k.kind, .int .i64 k.flag, .string k.text, .slice sa sn sc, .slice a n cap] ∧ SetAt w S (.slice sa sn sc) k.set ∧ k.set.length = sn ∧ k.keys.length = n ∧ n ≤ cap ∧ n ≤ 4398046511104 ∧ sn ≤ 4398046511104 := by
  rw [KeyAt] at h
  obtain ⟨sv, a, n, cap, rfl, hs, hl, hc, hm, _⟩ := h
  have hs' := hs
  obtain ⟨sa, sn, sc, rfl, h1, h2, h3, _⟩ := hs
  exact ⟨sa, sn, sc, a, n, cap, rfl, hs', h1, hl, hc, hm.1, h3.1⟩
theorem size_nil (t : ByteArray) : t.size = 0 ↔ t.toList = [] := by
  rw [ByteArray.toList_eq]
  show t.data.size = 0 ↔ _
  rw [← Array.length_toList, List.length_eq_zero_iff]
theorem cast0 (n : Nat) : ((n : Int) == 0) = decide (n = 0) := by rw [Bool.eq_iff_iff]; simp
theorem cast1 (n : Nat) : ((n : Int) == 1) = decide (n = 1) := by rw [Bool.eq_iff_iff]; simp; omega
theorem cast2 (n : Nat) : ((n : Int) == 2) = decide (n = 2) := by rw [Bool.eq_iff_iff]; simp; omega
theorem l12Word_any (t : ByteArray) (w : World) (ht : t.size ≤ maxLen) : Calls Tryd.prog 32 #[.string t] w fun e w' => e = .returned (.bool (nameOk t)) ∧ w = w' := by
  go_enter Tryd.func32, Tryd.ntmps32
  go_wp2_with fail
  refine (specNameValid_any t _ ht).mono ?_
  rintro e w' ⟨rfl, rfl⟩
  go_wp2_with fail
  go_ret
  exact ⟨rfl, rfl⟩
set_option maxHeartbeats 1000000 in
theorem l12Node_any (k : K) (v : Value) (S : Nat → Prop) (w : World) (h : KeyAt w S k v) (hN : Ins S w) (hf : k.text.size ≤ maxLen) :
    Calls Tryd.prog 23 #[v] w fun e w' => e = .returned (.bool (nodeOk k)) ∧ Below w.heap.size w w' := by
  obtain ⟨sa, sn, sc, a, L, cap, rfl, hs, hsn, hL, hcap, hmax, hmax2⟩ := h.open
  have hs1 := fun o => hs.below hN (show Below w.heap.size w (w.alloc o) from (Below.refl _ _).alloc (Nat.le_refl _) _)
  have hnode : nodeOk k = nodeB k.kind k.flag k.text k.set k.keys.length := rfl
  have HS := Lib.hid hs1
  rw [hL] at hnode
  clear hs hs1 h
  obtain ⟨kind, flag, text, set, keys⟩ := k
  simp only [K.kind, K.flag, K.text, K.set, K.keys] at *
  have hset : decide (set.length = 0) = decide (sn = 0) := by rw [hsn]
  have htx : decide (text.size = 0) = decide (text.toList = []) := decide_eq_decide.2 (size_nil text)
  unfold nodeB at hnode
  rw [hset, htx] at hnode
  have HX := Lib.hid hnode
  clear hnode hset hsn hL htx
  go_enter Tryd.func23, Tryd.ntmps23
  go_wp2_with (first
    | (go_at_call 31; refine (l12Flag_any _ _).mono ?_; rintro e w' ⟨rfl, rfl⟩)
    | (go_at_call 32; refine (l12Word_any _ _ hf).mono ?_; rintro e w' ⟨rfl, rfl⟩)
    | (go_at_call 33; refine (specSetValid_any _ _ _ _ (HS.out _)).mono ?_; rintro e w' ⟨rfl, rfl⟩))
  all_goals go_ret
  all_goals refine ⟨ret_bool ?_, (Below.refl _ _).alloc (Nat.le_refl _) _⟩
  all_goals rw [HX.out]
  all_goals clear HX HS
  all_goals (first | (simp_all [cast0, cast1, cast2]; done) | (simp_all; omega))
set_option maxHeartbeats 400000 in
theorem l12All_any (k : K) : ∀ (v : Value) (S : Nat → Prop) (w : World), KeyAt w S k v → Ins S w → k.Fit →
    Calls Tryd.prog 14 #[v] w fun e w' => e = .returned (.bool k.allOk) ∧ Below w.heap.size w w' := by
  induction k using K.ind with
  | h k ih =>
    intro v S w h hN hk
    have hkey := h
    rw [KeyAt] at h
    obtain ⟨sv, a, L, cap, rfl, hs, hL, hcap, ⟨hmax, _⟩, hmail⟩ := h
    have HL := Lib.hid hL; have IH := Lib.hid ih
    obtain ⟨w1, hw1⟩ : ∃ w1, w1 = w.alloc (.cells #[.int .i64 k.kind, .int .i64 k.flag, .string k.text, sv, .slice a L cap] 31) := ⟨_, rfl⟩
    have hbel : Below w.heap.size w w1 := by rw [hw1]; exact (Below.refl _ _).alloc (Nat.le_refl _) _
    have hz : w1.heap[w.heap.size]? = some (.cells #[.int .i64 k.kind, .int .i64 k.flag, .string k.text, sv, .slice a L cap] 31 (0, 0)) := by rw [hw1]; exact heap_alloc_new w _
    have HW := Lib.hid hw1; have HZ := Lib.hid hz; have HK := Lib.hid hkey; have HF := Lib.hid hk
    have hzl := lt_of_block hz
    have htx : k.text.size ≤ maxLen := by have := hk.text; unfold maxLen; omega
    clear hL ih hw1 hz hs hkey hk
    go_enter Tryd.func14, Tryd.ntmps14
    go_wp2_with fail
    rw [← HW.out]
    go_loopw [3] (fun i wr => ∃ (n : Nat), n ≤ L ∧ i = .int .i64 (n : Int) ∧ Hid ((k.keys.take n).all K.allOk = true) ∧ Below w1.heap.size w1 wr) (fun i _ => L - (intOf i).toNat)
    case atStart => exact ⟨0, by omega, rfl, (by show _ = _; simp), Below.refl _ _⟩
    case round =>
      obtain ⟨n, hn, rfl, HX, hq⟩ := hrel
      obtain ⟨e0, e1, e2, e3, e4, _⟩ := five_cells ((hq.block _ hzl).trans HZ.out)
      have q0 : Below w.heap.size w wr := hbel.trans (hq.mono hbel.size)
      by_cases hlt : n < L
      · rcases hmail with h0 | ⟨g, off, rfl, hg, hcells⟩
        · omega
        have hlt' : n < k.keys.length := by rw [HL.out]; exact hlt
        obtain ⟨c0, c1, c2, c3, c4, d0, d1, d2, d3, d4, hc⟩ := hcells n hlt'
        have kp : ∀ o c, w.cell? ⟨g, o, none⟩ = some c → wr.cell? ⟨g, o, none⟩ = some c := fun o c e => (q0.cell (p := ⟨g, o, none⟩) (hN.lt hg)).trans e
        replace d0 := kp _ _ d0
        replace d1 := kp _ _ d1
        replace d2 := kp _ _ d2
        replace d3 := kp _ _ d3
        replace d4 := kp _ _ d4
        have hc2 := hc.below hN q0
        have HC := Lib.hid (IH.out _ (List.getElem_mem hlt') _ S wr hc2 (hN.below q0) (HF.out.key (List.getElem_mem hlt')))
        have hyes := all_take_yes K.allOk hlt' HX.out
        have hno := all_take_no K.allOk hlt'
        have HY := Lib.hid hyes; have HN := Lib.hid hno
        have hnI : (n : Int) < (L : Int) := by omega
        clear hcells hc hc2 kp hyes hno
        rcases hb : k.keys[n].allOk with _ | _
        · have hr : k.allOk = false := by rw [K.allOk_eq, HN.out hb]; simp
          have HR := Lib.hid hr
          rw [hb] at HC
          clear hr hb
          go_wp2_with fail
          refine HC.out.mono ?_
          rintro e w2 ⟨rfl, q2⟩
          have q3 := q0.trans (q2.mono q0.size)
          clear d0 d1 d2 d3 d4 q2 HC e0 e1 e2 e3 e4
          go_wp2_with fail
          go_ret
          exact ⟨ret_bool HR.out.symm, q3⟩
        · have HR := Lib.hid (HY.out hb)
          rw [hb] at HC
          clear hb
          go_wp2_with fail
          refine HC.out.mono ?_
          rintro e w2 ⟨rfl, q2⟩
          have q3 := hq.trans (q2.mono hq.size)
          clear d0 d1 d2 d3 d4 q2 HC e0 e1 e2 e3 e4
          go_wp2_with fail
          go_roundw
          case rel => exact ⟨n + 1, by omega, by go_num, HR.out, q3⟩
          case measure => simp [intOf]; omega
      · have hnn : n = L := by omega
        have hall : k.keys.all K.allOk = true := by have := HX.out; rwa [hnn, ← HL.out, List.take_length] at this
        have hr : nodeOk k = k.allOk := by rw [K.allOk_eq, hall]; simp
        have HR := Lib.hid hr
        have HC := Lib.hid (l12Node_any k _ S wr (HK.out.below hN q0) (hN.below q0) htx)
        clear hnn hall hr hmail
        go_wp2_with fail
        refine HC.out.mono ?_
        rintro e w2 ⟨rfl, q2⟩
        have q3 := q0.trans (q2.mono q0.size)
        clear q2 HC e0 e1 e2 e3 e4
        go_wp2_with fail
        go_ret
        exact ⟨ret_bool HR.out, q3⟩
set_option maxHeartbeats 400000 in
theorem specKeyValid_any (k : K) (v : Value) (S : Nat → Prop) (w : World) (h : KeyAt w S k v) (hN : Ins S w) (hf : k.Fit) (hn : k.nodes ≤ 1000000000) :
    Calls Tryd.prog 6 #[v] w fun e w' => e = .returned (.bool (keyOk k)) ∧ Below w.heap.size w w' := by
  have hkey := h
  obtain ⟨sa, sn, sc, a, L, cap, rfl, _⟩ := h.open
  obtain ⟨w1, hw1⟩ : ∃ w1, w1 = w.alloc (.cells #[.int .i64 k.kind, .int .i64 k.flag, .string k.text, .slice sa sn sc, .slice a L cap] 31) := ⟨_, rfl⟩
  have hbel : Below w.heap.size w w1 := by rw [hw1]; exact (Below.refl _ _).alloc (Nat.le_refl _) _
  have hz : w1.heap[w.heap.size]? = some (.cells #[.int .i64 k.kind, .int .i64 k.flag, .string k.text, .slice sa sn sc, .slice a L cap] 31 (0, 0)) := by rw [hw1]; exact heap_alloc_new w _
  have hzl := lt_of_block hz
  have HW := Lib.hid hw1; have HZ := Lib.hid hz
  have h1 := l12All_any k _ S w1 (hkey.below hN hbel) (hN.below hbel) hf
  have HK := Lib.hid hkey
  obtain ⟨e0, e1, e2, e3, e4, _⟩ := five_cells hz
  rcases ha : k.allOk with _ | _
  · rw [ha] at h1
    have H1 := Lib.hid h1
    have hr : keyOk k = false := by simp [keyOk, ha]
    have HR := Lib.hid hr
    clear hw1 hz hkey h h1 ha hr
    go_enter Tryd.func6, Tryd.ntmps6
    go_wp2_with fail
    rw [← HW.out]
    refine H1.out.mono ?_
    rintro e w2 ⟨rfl, q2⟩
    have q3 := hbel.trans (q2.mono hbel.size)
    clear q2 H1 e0 e1 e2 e3 e4
    go_wp2_with fail
    go_ret
    exact ⟨ret_bool HR.out.symm, q3⟩
  · rw [ha] at h1
    have H1 := Lib.hid h1
    have hr : keyOk k = decide ((k.nodes : Int) ≤ 9) := by
      simp only [keyOk, ha, Bool.true_and]
      rw [Bool.eq_iff_iff]; simp; omega
    have HR := Lib.hid hr
    clear hw1 hz hkey h h1 ha hr
    go_enter Tryd.func6, Tryd.ntmps6
    go_wp2_with fail
    rw [← HW.out]
    refine H1.out.mono ?_
    rintro e w2 ⟨rfl, q2⟩
    have q3 := hbel.trans (q2.mono hbel.size)
    clear e0 e1 e2 e3 e4
    obtain ⟨e0, e1, e2, e3, e4, _⟩ := five_cells ((q2.block _ hzl).trans HZ.out)
    have h2 := l12Nodes_any k _ S w2 (HK.out.below hN q3) (hN.below q3) hn
    have H2 := Lib.hid h2
    clear q2 H1 h2
    go_wp2_with fail
    refine H2.out.mono ?_
    rintro e w4 ⟨rfl, q4⟩
    have q5 := q3.trans (q4.mono q3.size)
    clear q4 H2 e0 e1 e2 e3 e4
    go_wp2_with fail
    go_ret
    exact ⟨ret_bool HR.out.symm, q5⟩
end Go.Proofs.YtgcdopmidmelfaaDoor

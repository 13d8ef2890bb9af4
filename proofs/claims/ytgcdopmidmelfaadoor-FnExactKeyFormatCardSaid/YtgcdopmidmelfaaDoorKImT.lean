/- WALKS: numbers and sets as texts, at the program. -/
import Derived.Test.YtgcdopmidmelfaaDoorKNumP
import Derived.Test.YtgcdopmidmelfaaDoorKTo
import Derived.Deep.RegionWith
import Derived.Deep.Cut
namespace Go.Proofs.YtgcdopmidmelfaaDoor
open Go.RowKit
set_option linter.unusedVariables false

theorem setNumberText_any (n : Int) (h0 : 0 ≤ n) (h1 : n ≤ 99) (w : World) :
    Calls Tryd.prog 40 #[.int .i64 n] w fun e w' => e = .returned (.string ⟨(numT n).toArray⟩) ∧ w' = w := by
  by_cases hn : n = 0
  · subst hn
    go_enter Tryd.func40, Tryd.ntmps40
    go_wp2_with fail
    go_ret
    exact ⟨rfl, rfl⟩
  · have hb : (n == 0) = false := beq_eq_false_iff_ne.2 hn
    obtain ⟨m, rfl⟩ := Int.eq_ofNat_of_zero_le h0
    have hm : m < 100 := by omega
    have HE := Lib.hid (show Lib.decDigits m = numT (m : Int) by unfold numT; rw [if_neg hn]; rfl)
    go_enter Tryd.func40, Tryd.ntmps40
    go_wp2_with fail
    refine (Tryd.strconv_Itoa_small m hm _).mono ?_
    rintro e w' ⟨rfl, rfl⟩
    go_wp2_with fail
    go_ret
    exact ⟨by rw [← HE.out]; rfl, rfl⟩
/-- The first n spans' texts, in a block. -/
def TxRow (g L : Nat) (t : TypeId) (l : List (Int × Int)) (n : Nat) (W : World) : Prop :=
  ∃ cur, RowAt W g t cur ∧ cur.size = L ∧ ∀ i s, i < n → l[i]? = some s → ∃ x, cur[i]? = some (.string x) ∧ StrIs x (spanT s)
theorem TxRow.below {g L n : Nat} {t : TypeId} {l : List (Int × Int)} {W W' : World} (h : TxRow g L t l n W) (q : Below W.heap.size W W') : TxRow g L t l n W' := by
  obtain ⟨cur, hr, hz, hc⟩ := h
  exact ⟨cur, hr.below q, hz, hc⟩
theorem TxRow.put {g L n : Nat} {t : TypeId} {l : List (Int × Int)} {W : World} (h : TxRow g L t l n W) (hn : n < L) (v : Value) :
    (∃ u, W.cell? ⟨g, n, none⟩ = some u) ∧ W.frozen? ⟨g, n, none⟩ = false ∧ g < W.heap.size ∧ TxRow g L t l n (W.setCell ⟨g, n, none⟩ v) ∧ (W.setCell ⟨g, n, none⟩ v).cell? ⟨g, n, none⟩ = some v := by
  obtain ⟨cur, hr, hz, hc⟩ := h
  obtain ⟨u, h0⟩ := at_lt (cur := cur) (j := n) (by omega)
  refine ⟨⟨u, hr.cell h0⟩, hr.froz _, hr.lt, ⟨_, hr.set _ _, by simpa using hz, fun i s hi hs => ?_⟩, (hr.set n v).cell (set_eq (by omega))⟩
  obtain ⟨x, hx, hs'⟩ := hc i s hi hs
  exact ⟨x, by rw [set_ne (by omega)]; exact hx, hs'⟩
theorem TxRow.next {g L n : Nat} {t : TypeId} {l : List (Int × Int)} {W : World} (h : TxRow g L t l n W) {s : Int × Int} (hs : l[n]? = some s) {x : ByteArray} (hx : StrIs x (spanT s)) (hc : W.cell? ⟨g, n, none⟩ = some (.string x)) : TxRow g L t l (n + 1) W := by
  obtain ⟨cur, hr, hz, hcc⟩ := h
  refine ⟨cur, hr, hz, fun i s' hi hs' => ?_⟩
  by_cases e : i = n
  · subst e
    rw [hs] at hs'; cases hs'
    unfold RowAt at hr
    refine ⟨x, ?_, hx⟩
    simpa [World.cell?, hr] using hc
  · exact hcc i s' (by omega) hs'
theorem Tryd.infoStrK : (Tryd.prog.info? 9).map (fun i => (i.zero, i.size, i.bytes)) = some (some (.string ⟨#[]⟩), 1, 16) := by kernel_rfl
theorem join_to (l : List (Int × Int)) (xs : List ByteArray) (h : xs.length = l.length) (hx : ∀ (i : Nat) (s : Int × Int), l[i]? = some s → ∃ x, xs[i]? = some x ∧ StrIs x (spanT s)) : Lib.join (xs.map (·.data.toList)) [44] = setT l := by
  have key : ∀ n, n ≤ l.length → Lib.join ((xs.take n).map (·.data.toList)) [44] = setTo l n := by
    intro n
    induction n with
    | zero => intro _; simp [setTo, Lib.join_nil]
    | succ n ih =>
      intro hn
      have ih := ih (by omega)
      have hnl : n < l.length := by omega
      have hs := List.getElem?_eq_getElem hnl
      obtain ⟨x, hxn, hst⟩ := hx n _ hs
      rw [setTo_one hs, ← ih]
      obtain ⟨hlt, he⟩ := List.getElem?_eq_some_iff.1 hxn
      rw [List.take_succ_eq_append_getElem hlt, List.map_append]
      have hxd : x.data.toList = spanT l[n] := hst
      cases n with
      | zero => simp [Lib.join_one, Lib.join_nil, he, hxd]
      | succ m =>
        obtain ⟨y, ys, hy⟩ : ∃ y ys, (xs.take (m + 1)).map (·.data.toList) = y :: ys := by
          rcases h0 : (xs.take (m + 1)).map (·.data.toList) with _ | ⟨y, ys⟩
          · have := congrArg List.length h0
            rw [List.length_map, List.length_take, List.length_nil] at this
            omega
          · exact ⟨y, ys, h0⟩
        rw [hy, List.cons_append, Lib.join_cons, Lib.join_cons]
        simp [Lib.joinTail, he, hxd]
  have := key l.length (Nat.le_refl _)
  rw [← h, List.take_length] at this
  unfold setT
  rw [← h]; exact this
set_option maxHeartbeats 2000000 in
theorem implSetText_any (l : List (Int × Int)) (v : Value) (S : Nat → Prop) (w : World) (h : SetAt w S v l) (hN : Ins S w) (hok : setOk l = true) :
    Calls Tryd.prog 30 #[v] w fun e w' => ∃ s, e = .returned (.string s) ∧ StrIs s (setT l) ∧ Below w.heap.size w w' := by
  have hat := h
  obtain ⟨a, L, cap, rfl, hL, hc, ⟨hm, _⟩, hmail⟩ := h
  have hok' := hok
  simp [setOk] at hok'
  have hl6 : L ≤ 6 := by omega
  have HAT := Lib.hid hat; have HI := Lib.hid hN; have HL := Lib.hid hL; have HOK := Lib.hid hok
  have HSP := Lib.hid (show ∀ s ∈ l, spanOk s = true by intro s hs; have := hok; unfold setOk at this; rw [Bool.and_eq_true] at this; exact List.all_eq_true.1 this.2 s hs)
  clear hat hN hL hok hok'
  go_enter Tryd.func30, Tryd.ntmps30
  go_wp2_with fail
  refine (implSetValid_any l _ S w HAT.out HI.out).mono ?_
  rintro e w0 ⟨rfl, q0⟩
  rw [HOK.out]
  obtain ⟨i0, hi, hz0, hz1, hz2⟩ := info_parts Tryd.infoStrK
  have hmk := run_make_rowN (P := Tryd.prog) 55 9 i0 (.string ⟨#[]⟩) Tryd.underlying55 hi hz0 .i64 .i64 L L (Nat.le_refl _) (by rw [hz2]; omega) (by omega) w0
  rw [hz1] at hmk
  obtain ⟨w1, hw1⟩ : ∃ w1, w1 = w0.alloc (.cells (madeCells (Value.string ⟨#[]⟩).cells (L * 1)) 9) := ⟨_, rfl⟩
  have hmk2 : (Instr.makeSlice 55 (.int .i64 (L : Int)) (.int .i64 (L : Int))).run Tryd.prog w0 = .ok (.slice (some ⟨w0.heap.size, 0, none⟩) L L) w1 := by rw [hw1]; exact hmk
  have ho : TxRow w0.heap.size L 9 l 0 w1 := ⟨_, by rw [hw1]; exact heap_alloc_new w0 _, by simp [madeCells], fun i s hi => by omega⟩
  have q1 : Below w.heap.size w w1 := by rw [hw1]; exact q0.alloc q0.size _
  have HO := Lib.hid ho
  have hz : w.heap.size ≤ w0.heap.size := q0.size
  generalize hN0 : w0.heap.size = N0 at *
  clear hmk hw1 ho hi hz0 hz1 hz2 q0 HAT
  have n00 : N0 < w1.heap.size := by rw [← hN0]; have := HO.out; obtain ⟨_, hr, _⟩ := this; rw [← hN0] at hr; exact hr.lt
  have HN0 := Lib.hid hN0
  clear hN0
  go_wp2_with fail
  clear hmk2
  go_loopw [14] (fun i wr => ∃ (n : Nat), n ≤ L ∧ i = .int .i64 n ∧ Hid (TxRow N0 L 9 l n wr) ∧ Below w.heap.size w wr) (fun i _ => L - (intOf i).toNat)
  case atStart => exact ⟨0, by omega, rfl, HO, q1⟩
  case round =>
    obtain ⟨n, hn, rfl, HO2, hq⟩ := hrel
    clear HO q1 n00
    by_cases hlt : n < L
    · rcases hmail with h0 | ⟨g, off, rfl, hg, hcells⟩
      · omega
      replace hg := HI.out _ hg
      have hlt' : n < l.length := by rw [HL.out]; exact hlt
      have hm := List.getElem?_eq_getElem hlt'
      have hsp := HSP.out _ (List.getElem_mem hlt')
      generalize l[n] = s at hm hsp
      obtain ⟨lo, hi⟩ := s
      simp [spanOk] at hsp
      obtain ⟨c0, c1⟩ := hcells n _ hm
      dsimp only at c0 c1
      replace c0 := (hq.cell (p := ⟨g, _, none⟩) hg).trans c0
      replace c1 := (hq.cell (p := ⟨g, _, none⟩) hg).trans c1
      have hnI : (n : Int) < (L : Int) := by omega
      have hNl : N0 < wr.heap.size := by obtain ⟨_, hr, _⟩ := HO2.out; exact hr.lt
      obtain ⟨x, hx⟩ : ∃ x : ByteArray, ⟨(numT lo).toArray⟩ = x := ⟨_, rfl⟩
      have hxs : StrIs x (numT lo) := by rw [← hx]; exact strMk _
      have hxz : x.size ≤ 2 := by rw [strSize hxs]; exact numT_len (by omega)
      obtain ⟨y, hy⟩ : ∃ y : ByteArray, ⟨(numT hi).toArray⟩ = y := ⟨_, rfl⟩
      have hys : StrIs y (numT hi) := by rw [← hy]; exact strMk _
      have hyz : y.size ≤ 2 := by rw [strSize hys]; exact numT_len (by omega)
      obtain ⟨wq, hwq⟩ : ∃ wq, wq = wr.alloc (.cells #[.int .i64 lo, .int .i64 hi] 49) := ⟨_, rfl⟩
      have qq : Below wr.heap.size wr wq := by rw [hwq]; exact (Below.refl wr.heap.size wr).alloc (Nat.le_refl _) _
      have b0 : wq.cell? ⟨wr.heap.size, 0, none⟩ = some (.int .i64 lo) := by rw [hwq]; exact cell_of_block (j := 0) (heap_alloc_new wr _) rfl
      have b1 : wq.cell? ⟨wr.heap.size, 1, none⟩ = some (.int .i64 hi) := by rw [hwq]; exact cell_of_block (j := 1) (heap_alloc_new wr _) rfl
      have HWQ := Lib.hid hwq
      have hq2 := hq.trans (qq.mono hq.size)
      have hne : ¬ (N0 = wr.heap.size) ∧ ¬ (wr.heap.size = N0) := by omega
      obtain ⟨⟨u, d0⟩, f0, hg0, ht, hcell⟩ := (HO2.out.below qq).put hlt (.string x)
      have HX := Lib.hid hx; have HY := Lib.hid hy
      clear hcells hx hy hwq qq
      by_cases hlh : hi = lo
      · subst hlh
        have hst : StrIs x (spanT (hi, hi)) := by unfold spanT; rw [if_pos rfl, List.append_nil]; exact hxs
        have HNX := Lib.hid (ht.next hm hst hcell)
        have HST := Lib.hid hst
        clear ht hcell hm hxs hys
        go_wp2_with fail
        refine (setNumberText_any hi (by omega) (by omega) _).mono ?_
        rintro e w' ⟨rfl, rfl⟩
        rw [HX.out, ← HWQ.out]
        go_wp2_with fail
        go_roundw
        case rel => exact ⟨n + 1, by omega, by go_num, HNX, hq2.setCell (by show w.heap.size ≤ N0; exact hz) _⟩
        case measure => simp [intOf]; omega
      · have hb : (hi == lo) = false := beq_eq_false_iff_ne.2 hlh
        obtain ⟨_, f1, hg1, ht2, hcell2⟩ := ht.put hlt (.string (x ++ ((⟨#[58]⟩ : ByteArray) ++ y)))
        have hst : StrIs (x ++ ((⟨#[58]⟩ : ByteArray) ++ y)) (spanT (lo, hi)) := by unfold spanT; rw [if_neg hlh]; exact strApp hxs (strApp (l := [58]) rfl hys)
        have HNX := Lib.hid (ht2.next hm hst hcell2)
        have HC := Lib.hid hcell
        have HLH := Lib.hid hlh
        have QQ : Below w.heap.size w ((wq.setCell ⟨N0, n, none⟩ (.string x)).setCell ⟨N0, n, none⟩ (.string (x ++ ((⟨#[58]⟩ : ByteArray) ++ y)))) := (hq2.setCell (by show w.heap.size ≤ N0; exact hz) _).setCell (by show w.heap.size ≤ N0; exact hz) _
        clear ht ht2 hcell2 hm hxs hys hst hlh
        go_wp2_with fail
        refine (setNumberText_any lo (by omega) (by omega) _).mono ?_
        rintro e w' ⟨rfl, rfl⟩
        rw [HX.out, ← HWQ.out]
        have hcl := HC.out
        have hz2 : (⟨#[58]⟩ : ByteArray).size = 1 := rfl
        clear c0 c1
        go_upto_region 9 with fail
        go_region_with (go_at_call 40; refine (setNumberText_any hi (by omega) (by omega) _).mono ?_; rintro e w' ⟨rfl, rfl⟩; rw [HY.out])
        all_goals
          go_wp2_with fail
          go_roundw
          case rel => exact ⟨n + 1, by omega, by go_num, HNX, by first | exact QQ | exact ⟨QQ.os, QQ.tape, QQ.output, QQ.size, QQ.block⟩⟩
          case measure => simp [intOf]; omega
    · have hnn : n = L := by omega
      have ho2 := HO2.out
      rw [hnn] at ho2
      obtain ⟨cur, hr, hzc, hcc⟩ := ho2
      have hxs : ∃ xs : List ByteArray, xs.length = L ∧ (∀ (j : Nat) x, xs[j]? = some x → wr.cell? ⟨N0, 0 + j, none⟩ = some (.string x)) ∧ ∀ (i : Nat) (s : Int × Int), l[i]? = some s → ∃ x, xs[i]? = some x ∧ StrIs x (spanT s) := by
        obtain ⟨xs, h1, h2⟩ := listed_of (Q := fun i x => cur[i]? = some (Value.string x) ∧ ∃ s, l[i]? = some s ∧ StrIs x (spanT s)) L (fun i hi => by
          have hil : i < l.length := by rw [HL.out]; exact hi
          obtain ⟨x, hx, hs⟩ := hcc i _ hi (List.getElem?_eq_getElem hil)
          exact ⟨x, hx, _, List.getElem?_eq_getElem hil, hs⟩)
        refine ⟨xs, h1, fun j x hj => ?_, fun i s hs => ?_⟩
        · rw [Nat.zero_add]; exact hr.cell (h2 j x hj).1
        · have hil : i < xs.length := by rw [h1, ← HL.out]; exact (List.getElem?_eq_some_iff.1 hs).1
          obtain ⟨_, s', hs', hst⟩ := h2 i _ (List.getElem?_eq_getElem hil)
          rw [hs] at hs'; cases hs'
          exact ⟨_, List.getElem?_eq_getElem hil, hst⟩
      obtain ⟨xs, rfl, hcx, hxx⟩ := hxs
      have hj := join_to l xs (HL.out.symm) hxx
      have hjl : (setT l).length ≤ 140737488355328 := by
        have := setTo_len (l := l) (List.all_eq_true.2 HSP.out) l.length
        unfold setT; have := HL.out; omega
      have HJ := Lib.hid hj; have HCX := Lib.hid hcx; have HJL := Lib.hid hjl
      have hgl := hr.lt
      clear hr hzc hcc hcx hxx hj hjl hnn hmail HO2
      go_wp2_with fail
      refine (Tryd.strings_Join N0 0 xs.length xs ⟨#[44]⟩ wr HCX.out hgl (by omega) (Nat.le_refl _) (by have := HJ.out; show (Lib.join _ [44]).length ≤ _; rw [this]; exact HJL.out)).mono ?_
      rintro e w' ⟨rfl, q⟩
      go_wp2_with fail
      go_ret
      exact ⟨_, rfl, HJ.out ▸ strMk _, hq.trans (q.mono hq.size)⟩
end Go.Proofs.YtgcdopmidmelfaaDoor

/- WALKS: what the program's nodes find. -/
import Derived.Test.YtlkfaamjbecieaaDoorSNums
import Derived.Test.YtlkfaamjbecieaaDoorAsk
import Derived.Test.YtlkfaamjbecieaaDoorSLeaf
import Derived.Test.YtlkfaamjbecieaaDoorFlags3
import Derived.Test.YtlkfaamjbecieaaDoorShelf
import Derived.OwnWalk
import Derived.Deep.RegionHeld3
namespace Go.Proofs.YtlkfaamjbecieaaDoor
open Go.RowKit
set_option linter.unusedVariables false

/-- The library's own number of bytes that it can search at once: some number. -/
def MaxInt (w : World) : Prop := ∃ m, w.cell? ⟨1, 0, none⟩ = some (.int .i64 m)
theorem MaxInt.below {w w' : World} (h : MaxInt w) (hb : Below w.heap.size w w') : MaxInt w' := by
  obtain ⟨m, hm⟩ := h
  exact ⟨m, (hb.cell (World.block_lt_of_cell? _ _ hm)).trans hm⟩
theorem stringsContains_at (s p : ByteArray) (r : Bool) (w : World) (hs : s.size ≤ 1000000) (hm : MaxInt w) (h : partAt s.data.toList p.data.toList = r) :
    Calls Tryd.prog 51 #[.string s, .string p] w fun e w' => e = .returned (.bool r) ∧ w' = w := by
  obtain ⟨m, hm⟩ := hm
  subst h
  rw [← partAt_contains]
  exact Tryd.strings_Contains s p m w (by omega) hm
theorem Tryd.infoBool : (Tryd.prog.info? 4).map (fun i => (i.zero, i.size, i.bytes)) = some (some (.bool false), 1, 1) := by kernel_rfl
theorem one_cell {w : World} {b : Nat} {x : Value} {t : TypeId} (h : w.heap[b]? = some (.cells #[x] t (0, 0))) : w.cell? ⟨b, 0, none⟩ = some x ∧ w.frozen? ⟨b, 0, none⟩ = false := by
  simp [World.cell?, World.frozen?, h]
theorem tri_cells {w : World} {b : Nat} {x y z : Value} {t : TypeId} (h : w.heap[b]? = some (.cells #[x, y, z] t (0, 0))) : w.cell? ⟨b, 0, none⟩ = some x ∧ w.cell? ⟨b, 1, none⟩ = some y ∧ w.cell? ⟨b, 2, none⟩ = some z := by
  simp [World.cell?, h]
/-- A row of Booleans. -/
def Bools (f : Nat → Bool) (n : Nat) : Array Value := ((List.range n).map fun i => Value.bool (f i)).toArray
theorem Bools.size (f : Nat → Bool) (n : Nat) : (Bools f n).size = n := by simp [Bools]
theorem Bools.get {f : Nat → Bool} {n i : Nat} (h : i < n) : (Bools f n)[i]? = some (.bool (f i)) := by simp [Bools, h]
theorem Bools.set (f : Nat → Bool) (n m : Nat) (v : Bool) : (Bools f n).setIfInBounds m (.bool v) = Bools (fun i => if i = m then v else f i) n := by
  apply Array.ext_getElem?
  intro i
  rw [Array.getElem?_setIfInBounds]
  by_cases hi : i < n
  · rw [Bools.get hi]
    by_cases e : m = i
    · subst e; rw [if_pos rfl, if_pos (by rw [Bools.size]; exact hi), Bools.get hi, if_pos rfl]
    · rw [if_neg e, Bools.get hi, if_neg (fun h => e h.symm)]
  · have n1 : ∀ g, (Bools g n)[i]? = none := fun g => by rw [Array.getElem?_eq_none]; rw [Bools.size]; omega
    rw [n1, n1]
    split
    · next e => rw [if_neg (by rw [Bools.size]; omega)]
    · rfl
theorem Bools.ext {f g : Nat → Bool} {n : Nat} (h : ∀ i, i < n → f i = g i) : Bools f n = Bools g n := by
  apply Array.ext_getElem?
  intro i
  by_cases hi : i < n
  · rw [Bools.get hi, Bools.get hi, h i hi]
  · rw [Array.getElem?_eq_none (by rw [Bools.size]; omega), Array.getElem?_eq_none (by rw [Bools.size]; omega)]
theorem Bools.cell {w : World} {b n i : Nat} {f : Nat → Bool} {t : TypeId} (h : w.heap[b]? = some (.cells (Bools f n) t (0, 0))) (hi : i < n) : w.cell? ⟨b, i, none⟩ = some (.bool (f i)) ∧ w.frozen? ⟨b, i, none⟩ = false := by
  constructor
  · simp only [World.cell?, h]; exact Bools.get hi
  · simp [World.frozen?, h]
theorem Bools.store {w : World} {b n m : Nat} {f : Nat → Bool} {v : Bool} {t : TypeId} (h : w.heap[b]? = some (.cells (Bools f n) t (0, 0))) : (w.setCell ⟨b, m, none⟩ (.bool v)).heap[b]? = some (.cells (Bools (fun i => if i = m then v else f i) n) t (0, 0)) := by
  have hlt := lt_of_block h
  have h' : w.heap[b] = .cells (Bools f n) t (0, 0) := by simpa [Array.getElem?_eq_getElem hlt] using h
  show (w.heap.modify b _)[b]? = _
  rw [Array.getElem?_eq_getElem (by simpa using hlt), Array.getElem_modify_self, h', ← Bools.set]
  rfl
/-- The first n marks are set. -/
def upto (f : Nat → Bool) (n i : Nat) : Bool := decide (i < n) && f i
theorem Bools.next {w : World} {b L n : Nat} {f : Nat → Bool} {v : Bool} {t : TypeId} (h : w.heap[b]? = some (.cells (Bools (upto f n) L) t (0, 0))) (hv : f n = v) : (w.setCell ⟨b, n, none⟩ (.bool v)).heap[b]? = some (.cells (Bools (upto f (n + 1)) L) t (0, 0)) := by
  rw [Bools.store h]
  congr 2
  apply Bools.ext
  intro i hi
  unfold upto
  by_cases e : i = n
  · subst e; rw [if_pos rfl, hv]; simp
  · rw [if_neg e]
    congr 1
    exact decide_eq_decide.2 (by omega)
theorem Bools.full {w : World} {b L : Nat} {f : Nat → Bool} {t : TypeId} (h : w.heap[b]? = some (.cells (Bools (upto f L) L) t (0, 0))) : w.heap[b]? = some (.cells (Bools f L) t (0, 0)) := by
  rw [h, Bools.ext (g := f)]
  intro i hi
  simp [upto, hi]
/-- A slice of numbers is kept where its block is. -/
theorem IntsAt.blk {w w' : World} {g n cap : Nat} {l : List Int} (h : IntsAt w (.slice (some ⟨g, 0, none⟩) n cap) l) (hb : w'.heap[g]? = w.heap[g]?) (hs : w.heap.size ≤ w'.heap.size) : IntsAt w' (.slice (some ⟨g, 0, none⟩) n cap) l := by
  obtain ⟨a, n', cap', hv, hn, hc, hm, h⟩ := h
  refine ⟨a, n', cap', hv, hn, hc, hm, ?_⟩
  simp only [Value.slice.injEq] at hv
  obtain ⟨rfl, rfl, rfl⟩ := hv
  rcases h with h | ⟨b, off, ha, hlt, h⟩
  · exact .inl h
  · simp only [Option.some.injEq, Addr.mk.injEq] at ha
    obtain ⟨rfl, rfl, _⟩ := ha
    exact .inr ⟨_, _, rfl, by omega, fun i x hi => (World.cell?_of_block (w := w) hb).trans (h i x hi)⟩
theorem IntsAt.set {w : World} {g n cap f : Nat} {l : List Int} (h : IntsAt w (.slice (some ⟨g, 0, none⟩) n cap) l) (hf : g ≠ f) (i : Nat) (v : Value) : IntsAt (w.setCell ⟨f, i, none⟩ v) (.slice (some ⟨g, 0, none⟩) n cap) l :=
  h.blk (Below.heap_setCell _ _ _ _ hf) (by simp [World.setCell])
theorem IntsAt.heap {w w' : World} {g n cap : Nat} {l : List Int} (h : IntsAt w (.slice (some ⟨g, 0, none⟩) n cap) l) (hb : w'.heap = w.heap) : IntsAt w' (.slice (some ⟨g, 0, none⟩) n cap) l :=
  h.blk (by rw [hb]) (by rw [hb]; exact Nat.le_refl _)
theorem own_lt {w : World} {base g n cap : Nat} {l : List Int} (h : OwnInts w base (.slice (some ⟨g, 0, none⟩) n cap) l) : g < w.heap.size := by
  rcases h.2 with ⟨h0, _⟩ | ⟨g', cap', cur, he, _, hh, _⟩
  · cases h0
  · simp only [Value.slice.injEq, Option.some.injEq, Addr.mk.injEq] at he
    obtain ⟨⟨rfl, _⟩, _⟩ := he
    exact lt_of_block hh
/-- What a node finds: a row that the call makes. -/
def Row1 (w : World) (f : Nat → Bool) (L : Nat) (e : Ending) (w' : World) : Prop :=
  ∃ g, e = .returned (.slice (some ⟨g, 0, none⟩) L L) ∧ w.heap.size ≤ g ∧ w'.heap[g]? = some (.cells (Bools f L) 4 (0, 0)) ∧ Below w.heap.size w w'
theorem boxLastUid_any (b : B) (v : Value) (w : World) (h : BoxAt w v b) :
    Calls Tryd.prog 52 #[v] w fun e w' => e = .returned (.int .i64 (lastUid b)) ∧ Below w.heap.size w w' := by
  obtain ⟨s, rfl, a, L, cap, rfl, hL, hcap, ⟨hmax, _⟩, hmail⟩ := h
  by_cases h0 : L = 0
  · subst h0
    have hr : lastUid b = 0 := by
      have : b.mail = [] := List.eq_nil_of_length_eq_zero hL
      simp [lastUid, this]
    have HR := Lib.hid hr
    clear hr hmail hL
    go_enter Tryd.func52, Tryd.ntmps52
    go_wp2_with fail
    go_ret
    exact ⟨ret_int HR.out.symm, by go_grown⟩
  · rcases hmail with h | ⟨gm, off, rfl, hg, hcells⟩
    · exact absurd h h0
    have hL1 : L - 1 < b.mail.length := by omega
    have e0 := (hcells (L - 1) _ (List.getElem?_eq_getElem hL1)).1
    have hlu : (b.mail[L - 1]'hL1).uid = lastUid b := by
      unfold lastUid
      rw [List.getLast?_eq_getElem?, hL, List.getElem?_eq_getElem hL1]
    rw [hlu] at e0
    have hd : ((L : Int) == 0) = false := beq_eq_false_iff_ne.2 (by omega)
    have nE : (1 : Int) ≤ (L : Int) := by omega
    have nA : ((L : Int) - 1).toNat = L - 1 := by omega
    have nC : (L : Int) - 1 < (L : Int) := by omega
    clear hL hcells hlu hL1 h0
    go_enter Tryd.func52, Tryd.ntmps52
    go_wp2_with fail
    go_ret
    exact ⟨rfl, by go_grown⟩
theorem made_bools {w' : World} {base g L : Nat} {f : Nat → Bool} {t : TypeId} (h : w'.ownsRow base t 1 (.slice (some ⟨g, 0, none⟩) L L) L (madeCells #[Value.bool false] L).toList) : w'.heap[g]? = some (.cells (Bools (upto f 0) L) t (0, 0)) := by
  rcases h.2 with ⟨h0, _⟩ | ⟨g', cap, cur, he, _, hh, _, _, hs, ht⟩
  · cases h0
  · simp only [Value.slice.injEq, Option.some.injEq, Addr.mk.injEq] at he
    obtain ⟨⟨rfl, _⟩, _, rfl⟩ := he
    rw [hh]
    congr 2
    have e1 : cur.toList = (madeCells #[Value.bool false] L).toList := by
      rw [← ht, List.take_of_length_le (by simp [hs])]
    have e2 : cur = madeCells #[Value.bool false] L := Array.toList_inj.1 e1
    rw [e2]
    apply Array.ext_getElem?
    intro i
    by_cases hi : i < L
    · rw [Bools.get hi]
      simp [madeCells, hi, upto, Nat.mod_one]
    · rw [Array.getElem?_eq_none (by rw [size_madeCells]; omega), Array.getElem?_eq_none (by rw [Bools.size]; omega)]
set_option maxRecDepth 100000 in
set_option maxHeartbeats 2000000 in
theorem keyFinds_any (b : B) (hbk : bok b = true) (k : K) : ∀ (bv nd : Value) (S : Nat → Prop) (w : World), NodeAt w S k nd → Ins S w → BoxAt w bv b → k.allOk = true → MaxInt w →
    Calls Tryd.prog 33 #[bv, nd] w (Row1 w (found b k) b.mail.length) := by
  induction k using K.ind with
  | h k ih =>
    intro bv nd S w h hN hb hok hMI
    have hbox := hb
    have hnode : nodeOk k = true := by rw [K.allOk_eq, Bool.and_eq_true] at hok; exact hok.2
    have hsub : ∀ c ∈ k.keys, c.allOk = true := by rw [K.allOk_eq, Bool.and_eq_true] at hok; exact List.all_eq_true.1 hok.1
    obtain ⟨s, rfl, a, L, cap, rfl, hL, hcap, ⟨hmax, _⟩, hmail⟩ := hb
    have hl10 := (bok_next hbk).2.2
    rw [hL] at hl10 ⊢
    obtain ⟨j0, hj, hy0, hy1, hy2⟩ := info_parts Tryd.infoBool
    obtain ⟨g0, g7, g4, g5, g6⟩ := node_cases hnode
    have hnd := h
    rw [NodeAt] at hnd
    have HB := Lib.hid hbox; have HNO := Lib.hid hnode; have HK := Lib.hid h; have IH := Lib.hid ih; have HU := Lib.hid hsub; have HL := Lib.hid hL; have HM := Lib.hid hmail
    clear hbox hnode h ih hsub hok hL hmail
    have hcase : k.kind = 0 ∨ k.kind = 1 ∨ k.kind = 2 ∨ k.kind = 3 ∨ k.kind = 4 ∨ k.kind = 5 ∨ k.kind = 6 ∨ k.kind = 7 := by omega
    rcases hcase with hk | hk | hk | hk | hk | hk | hk | hk
    · rw [if_pos hk] at hnd
      obtain rfl := hnd
      clear g0 g7 g4 g5 g6
      have q0 := tell_all
      go_enter Tryd.func33, Tryd.ntmps33
      go_wp2_with (refine wpList_make_full _ rfl _ _ _ rfl w.heap.size 4 j0 (.bool false) 1 Tryd.underlying57 hj hy0 hy1 .i64 .i64 _ _ L rfl rfl rfl rfl (by rw [hy2]; omega) (by unfold maxLen; omega) (by simp) ?_)
      intro w1 hown hgrow
      have hz1 := made_bools (f := found b k) hown
      have hb1 : Below w.heap.size w w1 := Below.grown (by go_grown) hgrow (by simp) (fun k hk => by cases hk)
      have hs1 : w.heap.size + 1 < w1.heap.size := by have := lt_of_block hz1; simpa using this
      have hbx : w1.heap[w.heap.size]? = some (.cells #[.int .i64 b.next, .slice a L cap] 25 (0, 0)) := (hgrow.block _ (by simp) (by simp)).trans (heap_alloc_new w _)
      obtain ⟨c0, c1, f0, f1⟩ := two_cells hbx
      have HZ1 := Lib.hid hz1; have HX1 := Lib.hid hbx
      clear hown hgrow hz1 hbx f0 f1
      go_wp2_with fail
      go_loopg [7, 38] L (fun gk x i wr => ∃ n : Nat, n + gk = L ∧ i = .int .i64 n ∧ Hid (wr.heap[w.heap.size + 1]? = some (.cells (Bools (upto (found b k) n) L) 4 (0, 0))) ∧ Below w.heap.size w wr)
      case atStart => exact ⟨0, by omega, rfl, (Below.heap_alloc _ _ _ (by omega)).trans HZ1.out, hb1.alloc hb1.size _⟩
      case round =>
        clear HZ1 HX1 c0 c1
        obtain ⟨n, hn, rfl, HZ, hq⟩ := hrel
        by_cases hlt : n < L
        · have hlt' : n < b.mail.length := by rw [HL.out]; exact hlt
          have hf := all_found hk (List.getElem?_eq_getElem hlt')
          obtain ⟨k0, k1⟩ := Bools.cell HZ.out hlt
          have HF := Lib.hid hf
          have hnI : (n : Int) < (L : Int) := by omega
          clear hf hlt'
          go_wp2_with fail
          go_roundg (gk - 1)
          case measure => omega
          case rel => exact ⟨n + 1, by omega, by go_num, Bools.next HZ.out HF.out, hq.setCell (by show w.heap.size ≤ w.heap.size + 1; omega) _⟩
        · obtain rfl : n = L := by omega
          go_wp2_with fail
          go_ret
          exact ⟨_, rfl, by omega, Bools.full HZ.out, hq⟩
    · rw [if_neg (by omega), if_pos hk] at hnd
      obtain rfl := hnd
      clear g0 g7 g4 g5 g6
      have q0 := ask_all 83 (by decide)
      have q1 := tell_has
      go_enter Tryd.func33, Tryd.ntmps33
      go_wp2_with (refine wpList_make_full _ rfl _ _ _ rfl w.heap.size 4 j0 (.bool false) 1 Tryd.underlying57 hj hy0 hy1 .i64 .i64 _ _ L rfl rfl rfl rfl (by rw [hy2]; omega) (by unfold maxLen; omega) (by simp) ?_)
      intro w1 hown hgrow
      have hz1 := made_bools (f := found b k) hown
      have hb1 : Below w.heap.size w w1 := Below.grown (by go_grown) hgrow (by simp) (fun k hk => by cases hk)
      have hs1 : w.heap.size + 1 < w1.heap.size := by have := lt_of_block hz1; simpa using this
      have hbx : w1.heap[w.heap.size]? = some (.cells #[.int .i64 b.next, .slice a L cap] 25 (0, 0)) := (hgrow.block _ (by simp) (by simp)).trans (heap_alloc_new w _)
      obtain ⟨c0, c1, f0, f1⟩ := two_cells hbx
      have HZ1 := Lib.hid hz1; have HX1 := Lib.hid hbx
      clear hown hgrow hz1 hbx f0 f1
      obtain ⟨w2, hw2⟩ : ∃ w2, w2 = w1.alloc (.cells #[.int .i64 k.flag] 83) := ⟨_, rfl⟩
      have hz2 : w2.heap[w.heap.size + 1]? = some (.cells (Bools (upto (found b k) 0) L) 4 (0, 0)) := by rw [hw2]; exact (Below.heap_alloc _ _ _ (by omega)).trans HZ1.out
      have hy2 : w2.heap[w1.heap.size]? = some (.cells #[.int .i64 k.flag] 83 (0, 0)) := by rw [hw2]; exact heap_alloc_new w1 _
      have hb2 : Below w.heap.size w w2 := by rw [hw2]; exact hb1.alloc hb1.size _
      have HW2 := Lib.hid hw2; have HZ2 := Lib.hid hz2; have HY2 := Lib.hid hy2
      have hs0 : w.heap.size < w1.heap.size := by omega
      obtain ⟨fb, hfb⟩ : ∃ fb, w1.heap.size = fb := ⟨_, rfl⟩
      rw [hfb] at HY2 hs1
      have HFB := Lib.hid hfb
      clear hw2 hz2 hy2 hb1 HZ1 hfb
      go_wp2_with fail
      rw [HFB.out]
      go_loopg [51] L (fun gk i wr => ∃ n : Nat, n + gk = L ∧ i = .int .i64 n ∧ Hid (wr.heap[w.heap.size + 1]? = some (.cells (Bools (upto (found b k) n) L) 4 (0, 0))) ∧ Hid (wr.heap[fb]? = some (.cells #[.int .i64 k.flag] 83 (0, 0))) ∧ Below w.heap.size w wr)
      case atStart => exact ⟨0, by omega, rfl, (by first | exact HZ2.out | (rw [HW2.out] at HZ2; exact HZ2.out)), (by first | exact HY2.out | (rw [HW2.out] at HY2; exact HY2.out)), (by first | exact hb2 | (rw [HW2.out] at hb2; exact hb2))⟩
      case round =>
        clear HZ2 HY2 HX1 HW2 c0 c1 hb2 hs0
        obtain ⟨n, hn, rfl, HZ, HY, hq⟩ := hrel
        by_cases hlt : n < L
        · rcases HM.out with h0 | ⟨gm, off, rfl, hg, hcells⟩
          · omega
          have hlt' : n < b.mail.length := by rw [HL.out]; exact hlt
          have hme := List.getElem?_eq_getElem hlt'
          have hmo := bok_mok hbk _ (List.getElem_mem hlt')
          generalize b.mail[n] = m at hme hmo
          obtain ⟨e0, e1, e2⟩ := hcells n _ hme
          replace e0 := (hq.cell (p := ⟨gm, _, none⟩) hg).trans e0
          replace e1 := (hq.cell (p := ⟨gm, _, none⟩) hg).trans e1
          replace e2 := (hq.cell (p := ⟨gm, _, none⟩) hg).trans e2
          have hf := has_found hbk hk HNO.out hme
          have hms := mok_text hmo
          have hMr := hMI.below hq
          obtain ⟨r, hr⟩ : ∃ r, haveB m.flags k.flag = r := ⟨_, rfl⟩
          rw [hr] at hf
          obtain ⟨k0, k1⟩ := Bools.cell HZ.out hlt
          obtain ⟨y0, y1⟩ := one_cell HY.out
          have HF := Lib.hid hf; have HR := Lib.hid hr
          have hnI : (n : Int) < (L : Int) := by omega
          have l1 := lt_of_block HZ.out
          have l2 := lt_of_block HY.out
          clear hf hlt' hr hcells hme hmo y1
          go_wp2_with fail
          refine (implFlagsHave_any _ _ _).mono ?_
          rintro e w' ⟨rfl, rfl⟩
          rw [HR.out]
          go_wp2_with fail
          go_roundg (gk - 1)
          case measure => omega
          case rel =>
            first
            | exact ⟨n + 1, by omega, by go_num, (Below.heap_alloc _ _ _ (by simp; omega)).trans (Bools.next HZ.out HF.out), (Below.heap_alloc _ _ _ (by simp; omega)).trans ((Below.heap_setCell _ _ _ _ (by show fb ≠ w.heap.size + 1; omega)).trans HY.out), (hq.setCell (by show w.heap.size ≤ w.heap.size + 1; omega) _).alloc (by have := hq.size; simp; omega) _⟩
            | exact ⟨n + 1, by omega, by go_num, Bools.next ((Below.heap_alloc _ _ _ (by simp; omega)).trans HZ.out) HF.out, (Below.heap_setCell _ _ _ _ (by show fb ≠ w.heap.size + 1; omega)).trans ((Below.heap_alloc _ _ _ (by simp; omega)).trans HY.out), (hq.alloc hq.size _).setCell (by show w.heap.size ≤ w.heap.size + 1; omega) _⟩
        · obtain rfl : n = L := by omega
          clear HM
          go_wp2_with fail
          go_ret
          exact ⟨_, rfl, by omega, Bools.full HZ.out, hq⟩
    · rw [if_neg (by omega), if_neg (by omega), if_pos hk] at hnd
      obtain rfl := hnd
      clear g0 g7 g4 g5 g6
      have q0 := ask_all 85 (by decide)
      have q1 := ask_has 85 (by decide)
      have q2 := tell_text
      go_enter Tryd.func33, Tryd.ntmps33
      go_wp2_with (refine wpList_make_full _ rfl _ _ _ rfl w.heap.size 4 j0 (.bool false) 1 Tryd.underlying57 hj hy0 hy1 .i64 .i64 _ _ L rfl rfl rfl rfl (by rw [hy2]; omega) (by unfold maxLen; omega) (by simp) ?_)
      intro w1 hown hgrow
      have hz1 := made_bools (f := found b k) hown
      have hb1 : Below w.heap.size w w1 := Below.grown (by go_grown) hgrow (by simp) (fun k hk => by cases hk)
      have hs1 : w.heap.size + 1 < w1.heap.size := by have := lt_of_block hz1; simpa using this
      have hbx : w1.heap[w.heap.size]? = some (.cells #[.int .i64 b.next, .slice a L cap] 25 (0, 0)) := (hgrow.block _ (by simp) (by simp)).trans (heap_alloc_new w _)
      obtain ⟨c0, c1, f0, f1⟩ := two_cells hbx
      have HZ1 := Lib.hid hz1; have HX1 := Lib.hid hbx
      clear hown hgrow hz1 hbx f0 f1
      obtain ⟨w2, hw2⟩ : ∃ w2, w2 = w1.alloc (.cells #[.string k.text] 85) := ⟨_, rfl⟩
      have hz2 : w2.heap[w.heap.size + 1]? = some (.cells (Bools (upto (found b k) 0) L) 4 (0, 0)) := by rw [hw2]; exact (Below.heap_alloc _ _ _ (by omega)).trans HZ1.out
      have hy2 : w2.heap[w1.heap.size]? = some (.cells #[.string k.text] 85 (0, 0)) := by rw [hw2]; exact heap_alloc_new w1 _
      have hb2 : Below w.heap.size w w2 := by rw [hw2]; exact hb1.alloc hb1.size _
      have HW2 := Lib.hid hw2; have HZ2 := Lib.hid hz2; have HY2 := Lib.hid hy2
      have hs0 : w.heap.size < w1.heap.size := by omega
      obtain ⟨fb, hfb⟩ : ∃ fb, w1.heap.size = fb := ⟨_, rfl⟩
      rw [hfb] at HY2 hs1
      have HFB := Lib.hid hfb
      clear hw2 hz2 hy2 hb1 HZ1 hfb
      go_wp2_with fail
      rw [HFB.out]
      go_loopg [71] L (fun gk i wr => ∃ n : Nat, n + gk = L ∧ i = .int .i64 n ∧ Hid (wr.heap[w.heap.size + 1]? = some (.cells (Bools (upto (found b k) n) L) 4 (0, 0))) ∧ Hid (wr.heap[fb]? = some (.cells #[.string k.text] 85 (0, 0))) ∧ Below w.heap.size w wr)
      case atStart => exact ⟨0, by omega, rfl, (by first | exact HZ2.out | (rw [HW2.out] at HZ2; exact HZ2.out)), (by first | exact HY2.out | (rw [HW2.out] at HY2; exact HY2.out)), (by first | exact hb2 | (rw [HW2.out] at hb2; exact hb2))⟩
      case round =>
        clear HZ2 HY2 HX1 HW2 c0 c1 hb2 hs0
        obtain ⟨n, hn, rfl, HZ, HY, hq⟩ := hrel
        by_cases hlt : n < L
        · rcases HM.out with h0 | ⟨gm, off, rfl, hg, hcells⟩
          · omega
          have hlt' : n < b.mail.length := by rw [HL.out]; exact hlt
          have hme := List.getElem?_eq_getElem hlt'
          have hmo := bok_mok hbk _ (List.getElem_mem hlt')
          generalize b.mail[n] = m at hme hmo
          obtain ⟨e0, e1, e2⟩ := hcells n _ hme
          replace e0 := (hq.cell (p := ⟨gm, _, none⟩) hg).trans e0
          replace e1 := (hq.cell (p := ⟨gm, _, none⟩) hg).trans e1
          replace e2 := (hq.cell (p := ⟨gm, _, none⟩) hg).trans e2
          have hf := text_node hk hme
          have hms := mok_text hmo
          have hMr := hMI.below hq
          obtain ⟨r, hr⟩ : ∃ r, partAt m.text.data.toList k.text.data.toList = r := ⟨_, rfl⟩
          rw [hr] at hf
          obtain ⟨k0, k1⟩ := Bools.cell HZ.out hlt
          obtain ⟨y0, y1⟩ := one_cell HY.out
          have HF := Lib.hid hf; have HR := Lib.hid hr
          have hnI : (n : Int) < (L : Int) := by omega
          have l1 := lt_of_block HZ.out
          have l2 := lt_of_block HY.out
          clear hf hlt' hr hcells hme hmo y1
          go_wp2_with fail
          refine (stringsContains_at _ _ _ _ (by omega) (hMr.below (by go_grown)) HR.out).mono ?_
          rintro e w' ⟨rfl, rfl⟩
          go_wp2_with fail
          go_roundg (gk - 1)
          case measure => omega
          case rel =>
            first
            | exact ⟨n + 1, by omega, by go_num, (Below.heap_alloc _ _ _ (by simp; omega)).trans (Bools.next HZ.out HF.out), (Below.heap_alloc _ _ _ (by simp; omega)).trans ((Below.heap_setCell _ _ _ _ (by show fb ≠ w.heap.size + 1; omega)).trans HY.out), (hq.setCell (by show w.heap.size ≤ w.heap.size + 1; omega) _).alloc (by have := hq.size; simp; omega) _⟩
            | exact ⟨n + 1, by omega, by go_num, Bools.next ((Below.heap_alloc _ _ _ (by simp; omega)).trans HZ.out) HF.out, (Below.heap_setCell _ _ _ _ (by show fb ≠ w.heap.size + 1; omega)).trans ((Below.heap_alloc _ _ _ (by simp; omega)).trans HY.out), (hq.alloc hq.size _).setCell (by show w.heap.size ≤ w.heap.size + 1; omega) _⟩
        · obtain rfl : n = L := by omega
          clear HM
          go_wp2_with fail
          go_ret
          exact ⟨_, rfl, by omega, Bools.full HZ.out, hq⟩
    · rw [if_neg (by omega), if_neg (by omega), if_neg (by omega), if_pos hk] at hnd
      obtain ⟨sv, rfl, hsv⟩ := hnd
      have HSV := Lib.hid hsv
      obtain ⟨sa, sn, sc, rfl, _⟩ := hsv
      clear g0 g7 g4 g5 g6 HM IH
      have q0 := ask_all 87 (by decide)
      have q1 := ask_has 87 (by decide)
      have q2 := ask_text 87 (by decide)
      have q3 := tell_place
      go_enter Tryd.func33, Tryd.ntmps33
      go_wp2_with (refine wpList_make_full _ rfl _ _ _ rfl w.heap.size 4 j0 (.bool false) 1 Tryd.underlying57 hj hy0 hy1 .i64 .i64 _ _ L rfl rfl rfl rfl (by rw [hy2]; omega) (by unfold maxLen; omega) (by simp) ?_)
      intro w1 hown hgrow
      have hz1 := made_bools (f := found b k) hown
      have hb1 : Below w.heap.size w w1 := Below.grown (by go_grown) hgrow (by simp) (fun k hk => by cases hk)
      have hs1 : w.heap.size + 1 < w1.heap.size := by have := lt_of_block hz1; simpa using this
      have hbx : w1.heap[w.heap.size]? = some (.cells #[.int .i64 b.next, .slice a L cap] 25 (0, 0)) := (hgrow.block _ (by simp) (by simp)).trans (heap_alloc_new w _)
      obtain ⟨c0, c1, f0, f1⟩ := two_cells hbx
      have HZ1 := Lib.hid hz1; have HX1 := Lib.hid hbx
      clear hown hgrow hz1 hbx f0 f1
      obtain ⟨w2, hw2⟩ : ∃ w2, w2 = w1.alloc (.cells #[.slice sa sn sc] 87) := ⟨_, rfl⟩
      have hz2 : w2.heap[w.heap.size + 1]? = some (.cells (Bools (upto (found b k) 0) L) 4 (0, 0)) := by rw [hw2]; exact (Below.heap_alloc _ _ _ (by omega)).trans HZ1.out
      have hx2 : w2.heap[w.heap.size]? = some (.cells #[.int .i64 b.next, .slice a L cap] 25 (0, 0)) := by rw [hw2]; exact (Below.heap_alloc _ _ _ (by omega)).trans HX1.out
      have hy2 : w2.heap[w1.heap.size]? = some (.cells #[.slice sa sn sc] 87 (0, 0)) := by rw [hw2]; exact heap_alloc_new w1 _
      have hb2 : Below w.heap.size w w2 := by rw [hw2]; exact hb1.alloc hb1.size _
      have HW2 := Lib.hid hw2; have HZ2 := Lib.hid hz2; have HY2 := Lib.hid hy2; have HX2 := Lib.hid hx2
      have hs0 : w.heap.size < w1.heap.size := by omega
      have hs2 : w.heap.size + 1 < w2.heap.size := lt_of_block hz2
      clear hw2 hz2 hy2 hb1 HZ1 HX1 hx2
      go_wp2_with fail
      rw [← HW2.out]
      refine (implSetNumbers_any k.set (L : Int) _ S w2 (HSV.out.below hN hb2) (hN.below hb2)).mono ?_
      rintro e w4 ⟨g, cp, rfl, ho, q4⟩
      have hz4 := (q4.block _ hs2).trans HZ2.out
      have hb4 := hb2.trans (q4.mono hb2.size)
      have hpl := fun i (hi : i < b.mail.length) => place_node hbk hk HNO.out hi
      have hnm := fun (p : Int) => numbers_mem (last := (L : Int)) (p := p) (node_set (.inl hk) HNO.out)
      rw [HL.out] at hpl
      have hat := ho.at (by have := numbers_len k.set (L : Int); omega)
      have hgb := row_base ho
      have hN99 := numbers_len k.set (L : Int)
      generalize numbersOf k.set (L : Int) = ns at hpl hnm hat hN99
      obtain ⟨N, hNl⟩ : ∃ N, ns.length = N := ⟨_, rfl⟩
      rw [hNl] at hat hN99 ⊢
      obtain ⟨a', n', cap', hv, hl', _, _, hcl⟩ := hat
      simp only [Value.slice.injEq] at hv
      obtain ⟨rfl, rfl, rfl⟩ := hv
      have hcells : ∀ i x, ns[i]? = some x → w4.cell? ⟨g, i, none⟩ = some (.int .i64 x) := by
        intro i x hi
        rcases hcl with h0 | ⟨b', off, he, hlt, hc⟩
        · have := (List.getElem?_eq_some_iff.1 hi).1; omega
        · simp only [Option.some.injEq, Addr.mk.injEq] at he
          obtain ⟨rfl, rfl, _⟩ := he
          have := hc i x hi
          rwa [Nat.zero_add] at this
      have hz40 : w4.heap[w.heap.size + 1]? = some (.cells (Bools (fun i => hasB (ns.take 0) ((i : Int) + 1)) L) 4 (0, 0)) := by
        rw [hz4]; congr 2
      have HZ4 := Lib.hid hz40; have HC := Lib.hid hcells; have HPL := Lib.hid hpl; have HNM := Lib.hid hnm; have HNL := Lib.hid hNl
      have hgn : w.heap.size + 1 < g := by omega
      clear hz4 hz40 q4 HZ2 HY2 HX2 HW2 hb2 hs0 hs1 hs2 c0 c1 ho hcl hl' hcells hpl hnm hNl hgb
      go_wp2_with fail
      go_loopg [95] N (fun gk i wr => ∃ n : Nat, n + gk = N ∧ i = .int .i64 n ∧ Hid (wr.heap[w.heap.size + 1]? = some (.cells (Bools (fun i => hasB (ns.take n) ((i : Int) + 1)) L) 4 (0, 0))) ∧ Hid (wr.heap[g]? = w4.heap[g]?) ∧ Below w.heap.size w wr)
      case atStart => exact ⟨0, by omega, rfl, HZ4.out, rfl, hb4⟩
      case round =>
        clear HZ4 hb4
        obtain ⟨n, hn, rfl, HZ, HG, hq⟩ := hrel
        by_cases hlt : n < N
        · have hlt' : n < ns.length := by rw [HNL.out]; exact hlt
          have hp := List.getElem?_eq_getElem hlt'
          have hpm := (HNM.out ns[n]).1 (List.getElem_mem hlt')
          generalize ns[n] = p at hp hpm
          have y0 := (World.cell?_of_block (w := w4) HG.out).trans (HC.out n p hp)
          obtain ⟨q, hq'⟩ := Int.eq_ofNat_of_zero_le (show 0 ≤ p - 1 by omega)
          have hpq : p = (q : Int) + 1 := by omega
          subst hpq
          have hqL : q < L := by omega
          have hmk := fun i => place_marks ns n i _ hp (by omega)
          rw [show ((q : Int) + 1 - 1).toNat = q from by omega] at hmk
          obtain ⟨k0, k1⟩ := Bools.cell HZ.out hqL
          have HMK := Lib.hid hmk
          have hnI : (n : Int) < (N : Int) := by omega
          have hqI : (q : Int) < (L : Int) := by omega
          clear hlt' hp hpm hq' hmk
          go_wp2_with fail
          go_roundg (gk - 1)
          case measure => omega
          case rel =>
            refine ⟨n + 1, by omega, by go_num, ?_, (Below.heap_setCell _ _ _ _ (by show g ≠ w.heap.size + 1; omega)).trans HG.out, hq.setCell (by show w.heap.size ≤ w.heap.size + 1; omega) _⟩
            show _ = _
            rw [Bools.store HZ.out, Bools.ext fun i _ => HMK.out i]
        · obtain rfl : n = N := by omega
          have hz := HZ.out
          rw [show ns.take n = ns from by rw [← HNL.out, List.take_length], Bools.ext (g := found b k) (fun i hi => (HPL.out i hi).symm)] at hz
          have HZE := Lib.hid hz
          clear hz
          go_wp2_with fail
          go_ret
          exact ⟨_, rfl, by omega, HZE.out, hq⟩
    · rw [if_neg (by omega), if_neg (by omega), if_neg (by omega), if_neg (by omega), if_pos hk] at hnd
      obtain ⟨sv, rfl, hsv⟩ := hnd
      have HSV := Lib.hid hsv
      obtain ⟨sa, sn, sc, rfl, _⟩ := hsv
      clear g0 g7 g4 g5 g6 IH
      have q0 := ask_all 88 (by decide)
      have q1 := ask_has 88 (by decide)
      have q2 := ask_text 88 (by decide)
      have q3 := ask_place 88 (by decide)
      have q4 := tell_uid
      go_enter Tryd.func33, Tryd.ntmps33
      go_wp2_with (refine wpList_make_full _ rfl _ _ _ rfl w.heap.size 4 j0 (.bool false) 1 Tryd.underlying57 hj hy0 hy1 .i64 .i64 _ _ L rfl rfl rfl rfl (by rw [hy2]; omega) (by unfold maxLen; omega) (by simp) ?_)
      intro w1 hown hgrow
      have hz1 := made_bools (f := found b k) hown
      have hb1 : Below w.heap.size w w1 := Below.grown (by go_grown) hgrow (by simp) (fun k hk => by cases hk)
      have hs1 : w.heap.size + 1 < w1.heap.size := by have := lt_of_block hz1; simpa using this
      have hbx : w1.heap[w.heap.size]? = some (.cells #[.int .i64 b.next, .slice a L cap] 25 (0, 0)) := (hgrow.block _ (by simp) (by simp)).trans (heap_alloc_new w _)
      obtain ⟨c0, c1, f0, f1⟩ := two_cells hbx
      have HZ1 := Lib.hid hz1; have HX1 := Lib.hid hbx
      clear hown hgrow hz1 hbx f0 f1
      obtain ⟨w2, hw2⟩ : ∃ w2, w2 = w1.alloc (.cells #[.slice sa sn sc] 88) := ⟨_, rfl⟩
      have hz2 : w2.heap[w.heap.size + 1]? = some (.cells (Bools (upto (found b k) 0) L) 4 (0, 0)) := by rw [hw2]; exact (Below.heap_alloc _ _ _ (by omega)).trans HZ1.out
      have hx2 : w2.heap[w.heap.size]? = some (.cells #[.int .i64 b.next, .slice a L cap] 25 (0, 0)) := by rw [hw2]; exact (Below.heap_alloc _ _ _ (by omega)).trans HX1.out
      have hy2 : w2.heap[w1.heap.size]? = some (.cells #[.slice sa sn sc] 88 (0, 0)) := by rw [hw2]; exact heap_alloc_new w1 _
      have hb2 : Below w.heap.size w w2 := by rw [hw2]; exact hb1.alloc hb1.size _
      have HW2 := Lib.hid hw2; have HZ2 := Lib.hid hz2; have HY2 := Lib.hid hy2; have HX2 := Lib.hid hx2
      have hs0 : w.heap.size < w1.heap.size := by omega
      have hs2 : w.heap.size + 1 < w2.heap.size := lt_of_block hz2
      clear hw2 hz2 hy2 hb1 HZ1 HX1 hx2
      obtain ⟨fb, hfb⟩ : ∃ fb, w1.heap.size = fb := ⟨_, rfl⟩
      rw [hfb] at HY2 hs1
      have HFB := Lib.hid hfb
      have HST := Lib.hid (fun (W : World) (q : Below w2.heap.size w2 W) => And.intro (two_cells ((q.block _ (lt_of_block HX2.out)).trans HX2.out)) (And.intro (one_cell ((q.block _ (lt_of_block HY2.out)).trans HY2.out)) ((q.block _ hs2).trans HZ2.out)))
      clear hfb
      go_wp2_with fail
      rw [HFB.out, ← HW2.out]
      obtain ⟨⟨a0, a1, t0, t1⟩, ⟨p0, p1⟩, t2⟩ := HST.out w2 (Below.refl _ _)
      clear c0 c1 t0 t1 t2 p1
      go_region_held3 (fun W => (W.cell? ⟨w.heap.size, 0, none⟩ = some (.int .i64 b.next) ∧ W.cell? ⟨w.heap.size, 1, none⟩ = some (.slice a L cap)) ∧ W.cell? ⟨fb, 0, none⟩ = some (.slice sa sn sc)) (first | exact ⟨⟨a0, a1⟩, p0⟩ | (go_keep; done)) (first | (go_at_call 52; refine (boxLastUid_any b _ _ (HB.out.below (by first | exact hb2 | exact hb2.drew | exact hb2.drew.drew))).mono ?_; rintro e w4 ⟨rfl, q4⟩; have b24 : Below w2.heap.size w2 w4 := Below.trans (by first | exact Below.refl _ _ | exact (Below.refl _ _).drew | exact (Below.refl _ _).drew.drew) q4; have hb4 := hb2.trans (b24.mono hb2.size); clear a0 a1 p0; obtain ⟨⟨a0, a1, t0, t1⟩, ⟨p0, p1⟩, t2⟩ := HST.out w4 b24; clear q4 p1 t0 t1 t2) | (go_at_call 24; refine (implSetNumbers_any k.set (lastUid b) _ S _ (HSV.out.below hN (by first | exact hb4 | exact hb4.drew | exact hb4.drew.drew)) (hN.below (by first | exact hb4 | exact hb4.drew | exact hb4.drew.drew))).mono ?_; rintro e w5 ⟨g, cp, rfl, ho, q5⟩; have b25 : Below w2.heap.size w2 w5 := Below.trans (by first | exact b24 | exact b24.drew | exact b24.drew.drew) (q5.mono (by show _ ≤ w4.heap.size; exact b24.size)); have hb5 := hb2.trans (b25.mono hb2.size); have hgb : w4.heap.size ≤ g := row_base ho; have hgl := own_lt ho; have HO5 := Lib.hid ho; have hz5 := (HST.out w5 b25).2.2; have HZ5 := Lib.hid hz5; clear a0 a1 p0; obtain ⟨⟨a0, a1, t0, t1⟩, ⟨p0, p1⟩, t2⟩ := HST.out w5 b25; clear q5 ho hz5 p1 t0 t1 t2))
      have h2b := b24.size
      have hgn : w.heap.size + 1 < g := by omega
      have hat := HO5.out.at (by have := numbers_len k.set (lastUid b); omega)
      have hun := fun (i : Nat) (m : M) (h : b.mail[i]? = some m) => uid_node hbk hk HNO.out h
      have hN99 := numbers_len k.set (lastUid b)
      generalize numbersOf k.set (lastUid b) = ns at hat hun hN99 ⊢
      generalize ns.length = N at hat hN99 ⊢
      have HAT := Lib.hid hat; have HUN := Lib.hid hun
      clear hat hun HO5 HST HY2 HZ2 HX2 HW2 b24 b25 hb4 p0 hgb
      go_wp2_with fail
      clear a0 a1
      go_loopg [115] L (fun gk i wr => ∃ n : Nat, n + gk = L ∧ i = .int .i64 n ∧ Hid (wr.heap[w.heap.size + 1]? = some (.cells (Bools (upto (found b k) n) L) 4 (0, 0))) ∧ Hid (IntsAt wr (.slice (some ⟨g, 0, none⟩) N cp) ns) ∧ g < wr.heap.size ∧ Below w.heap.size w wr)
      case atStart => exact ⟨0, by omega, rfl, HZ5.out, HAT.out.heap rfl, (by show g < w5.heap.size; exact hgl), (by first | exact hb5 | exact hb5.drew | exact below_drewN hb5 _)⟩
      case round =>
        clear HZ5 HAT hb5 hb2 hgl
        obtain ⟨n, hn, rfl, HZ, HA, hgw, hq⟩ := hrel
        by_cases hlt : n < L
        · rcases HM.out with h0 | ⟨gm, off, rfl, hg, hcells⟩
          · omega
          have hlt' : n < b.mail.length := by rw [HL.out]; exact hlt
          have hme := List.getElem?_eq_getElem hlt'
          generalize b.mail[n] = m at hme
          obtain ⟨e0, e1, e2⟩ := hcells n _ hme
          replace e0 := (hq.cell (p := ⟨gm, _, none⟩) hg).trans e0
          replace e1 := (hq.cell (p := ⟨gm, _, none⟩) hg).trans e1
          replace e2 := (hq.cell (p := ⟨gm, _, none⟩) hg).trans e2
          have hf := HUN.out n m hme
          obtain ⟨r, hr⟩ : ∃ r, hasB ns m.uid = r := ⟨_, rfl⟩
          rw [hr] at hf
          obtain ⟨k0, k1⟩ := Bools.cell HZ.out hlt
          have HF := Lib.hid hf; have HR := Lib.hid hr
          have hnI : (n : Int) < (L : Int) := by omega
          have l1 := lt_of_block HZ.out
          clear hf hlt' hr hcells hme
          go_wp2_with fail
          refine (contains_any ns m.uid _ _ (HA.out.below (by go_grown))).mono ?_
          rintro e w' ⟨rfl, rfl⟩
          rw [HR.out]
          go_wp2_with fail
          go_roundg (gk - 1)
          case measure => omega
          case rel =>
            exact ⟨n + 1, by omega, by go_num, (Below.heap_alloc _ _ _ (by simp; omega)).trans (Bools.next HZ.out HF.out), (HA.out.set (by omega) _ _).below ((Below.refl _ _).alloc (Nat.le_refl _) _), (by simp; omega), (hq.setCell (by show w.heap.size ≤ w.heap.size + 1; omega) _).alloc (by have := hq.size; simp; omega) _⟩
        · obtain rfl : n = L := by omega
          clear HM
          go_wp2_with fail
          go_ret
          exact ⟨_, rfl, by omega, Bools.full HZ.out, hq⟩
    · rw [if_neg (by omega), if_neg (by omega), if_neg (by omega), if_neg (by omega), if_neg (by omega), if_pos hk] at hnd
      obtain ⟨h0, x, rfl, hx⟩ := hnd
      obtain ⟨tx, vx, rfl⟩ := hx.iface
      have hIH := fun (W : World) (q : Below w.heap.size w W) => IH.out _ (List.getElem_mem h0) (.agg #[.int .i64 b.next, .slice a L cap]) _ S W (hx.below hN q) (hN.below q) (HB.out.below q) (HU.out _ (List.getElem_mem h0)) (hMI.below q)
      rw [HL.out] at hIH
      have HI := Lib.hid hIH
      clear g0 g7 g4 g5 g6 hIH hx HM IH
      have q0 := ask_all 91 (by decide)
      have q1 := ask_has 91 (by decide)
      have q2 := ask_text 91 (by decide)
      have q3 := ask_place 91 (by decide)
      have q4 := ask_uid 91 (by decide)
      have q5 := tell_not
      go_enter Tryd.func33, Tryd.ntmps33
      go_wp2_with (refine wpList_make_full _ rfl _ _ _ rfl w.heap.size 4 j0 (.bool false) 1 Tryd.underlying57 hj hy0 hy1 .i64 .i64 _ _ L rfl rfl rfl rfl (by rw [hy2]; omega) (by unfold maxLen; omega) (by simp) ?_)
      intro w1 hown hgrow
      have hz1 := made_bools (f := found b k) hown
      have hb1 : Below w.heap.size w w1 := Below.grown (by go_grown) hgrow (by simp) (fun k hk => by cases hk)
      have hs1 : w.heap.size + 1 < w1.heap.size := by have := lt_of_block hz1; simpa using this
      have hbx : w1.heap[w.heap.size]? = some (.cells #[.int .i64 b.next, .slice a L cap] 25 (0, 0)) := (hgrow.block _ (by simp) (by simp)).trans (heap_alloc_new w _)
      obtain ⟨c0, c1, f0, f1⟩ := two_cells hbx
      have HZ1 := Lib.hid hz1; have HX1 := Lib.hid hbx
      clear hown hgrow hz1 hbx f0 f1
      obtain ⟨w2, hw2⟩ : ∃ w2, w2 = w1.alloc (.cells #[.iface tx vx] 91) := ⟨_, rfl⟩
      have hz2 : w2.heap[w.heap.size + 1]? = some (.cells (Bools (upto (found b k) 0) L) 4 (0, 0)) := by rw [hw2]; exact (Below.heap_alloc _ _ _ (by omega)).trans HZ1.out
      have hx2 : w2.heap[w.heap.size]? = some (.cells #[.int .i64 b.next, .slice a L cap] 25 (0, 0)) := by rw [hw2]; exact (Below.heap_alloc _ _ _ (by omega)).trans HX1.out
      have hy2 : w2.heap[w1.heap.size]? = some (.cells #[.iface tx vx] 91 (0, 0)) := by rw [hw2]; exact heap_alloc_new w1 _
      have hb2 : Below w.heap.size w w2 := by rw [hw2]; exact hb1.alloc hb1.size _
      have HW2 := Lib.hid hw2; have HZ2 := Lib.hid hz2; have HY2 := Lib.hid hy2; have HX2 := Lib.hid hx2
      have hs0 : w.heap.size < w1.heap.size := by omega
      have hs2 : w.heap.size + 1 < w2.heap.size := lt_of_block hz2
      clear hw2 hz2 hy2 hb1 HZ1 HX1 hx2
      go_wp2_with fail
      rw [← HW2.out]
      refine (HI.out w2 hb2).mono ?_
      rintro e w4 ⟨g, rfl, hg1, hg2, q4⟩
      have hz4 := (q4.block _ hs2).trans HZ2.out
      have hb4 := hb2.trans (q4.mono hb2.size)
      have HZ4 := Lib.hid hz4; have HG4 := Lib.hid hg2
      have hgn : w.heap.size + 1 < g := by omega
      clear hz4 hg2 q4 HZ2 HY2 HX2 HW2 hb2 hs0 hs1 hs2 hg1 c0 c1
      go_wp2_with fail
      go_loopg [136] L (fun gk i wr => ∃ n : Nat, n + gk = L ∧ i = .int .i64 n ∧ Hid (wr.heap[w.heap.size + 1]? = some (.cells (Bools (upto (found b k) n) L) 4 (0, 0))) ∧ Hid (wr.heap[g]? = some (.cells (Bools (found b (k.keys[0]'h0)) L) 4 (0, 0))) ∧ Below w.heap.size w wr)
      case atStart => exact ⟨0, by omega, rfl, HZ4.out, HG4.out, hb4⟩
      case round =>
        clear HZ4 HG4 hb4
        obtain ⟨n, hn, rfl, HZ, HG, hq⟩ := hrel
        by_cases hlt : n < L
        · have hlt' : n < b.mail.length := by rw [HL.out]; exact hlt
          have hf := not_node hk h0 (List.getElem?_eq_getElem hlt')
          obtain ⟨k0, k1⟩ := Bools.cell HZ.out hlt
          obtain ⟨y0, y1⟩ := Bools.cell HG.out hlt
          generalize found b (k.keys[0]'h0) n = r at hf y0
          have HF := Lib.hid hf
          have hnI : (n : Int) < (L : Int) := by omega
          clear hf hlt' y1
          go_wp2_with fail
          go_roundg (gk - 1)
          case measure => omega
          case rel => exact ⟨n + 1, by omega, by go_num, Bools.next HZ.out HF.out, (Below.heap_setCell _ _ _ _ (by show g ≠ w.heap.size + 1; omega)).trans HG.out, hq.setCell (by show w.heap.size ≤ w.heap.size + 1; omega) _⟩
        · obtain rfl : n = L := by omega
          go_wp2_with fail
          go_ret
          exact ⟨_, rfl, by omega, Bools.full HZ.out, hq⟩
    ·
      rw [if_neg (by omega), if_neg (by omega), if_neg (by omega), if_neg (by omega), if_neg (by omega), if_neg (by omega)] at hnd
      obtain ⟨h1, x, y, rfl, hx, hy⟩ := hnd
      have h0 : 0 < k.keys.length := by omega
      obtain ⟨tx, vx, rfl⟩ := hx.iface
      obtain ⟨ty, vy, rfl⟩ := hy.iface
      have hIH := fun (W : World) (q : Below w.heap.size w W) => IH.out _ (List.getElem_mem h0) (.agg #[.int .i64 b.next, .slice a L cap]) _ S W (hx.below hN q) (hN.below q) (HB.out.below q) (HU.out _ (List.getElem_mem h0)) (hMI.below q)
      have hJH := fun (W : World) (q : Below w.heap.size w W) => IH.out _ (List.getElem_mem h1) (.agg #[.int .i64 b.next, .slice a L cap]) _ S W (hy.below hN q) (hN.below q) (HB.out.below q) (HU.out _ (List.getElem_mem h1)) (hMI.below q)
      rw [HL.out] at hIH hJH
      have HI := Lib.hid hIH; have HJ := Lib.hid hJH
      clear g0 g7 g4 g5 g6 hIH hJH hx hy HM IH
      have q0 := ask_all 93 (by decide)
      have q1 := ask_has 93 (by decide)
      have q2 := ask_text 93 (by decide)
      have q3 := ask_place 93 (by decide)
      have q4 := ask_uid 93 (by decide)
      have q5 := ask_not 93 (by decide)
      have q6 := tell_pair
      rw [show (k.kind == 6) = true from by rw [hk]; rfl]
      go_enter Tryd.func33, Tryd.ntmps33
      go_wp2_with (refine wpList_make_full _ rfl _ _ _ rfl w.heap.size 4 j0 (.bool false) 1 Tryd.underlying57 hj hy0 hy1 .i64 .i64 _ _ L rfl rfl rfl rfl (by rw [hy2]; omega) (by unfold maxLen; omega) (by simp) ?_)
      intro w1 hown hgrow
      have hz1 := made_bools (f := found b k) hown
      have hb1 : Below w.heap.size w w1 := Below.grown (by go_grown) hgrow (by simp) (fun k hk => by cases hk)
      have hs1 : w.heap.size + 1 < w1.heap.size := by have := lt_of_block hz1; simpa using this
      have hbx : w1.heap[w.heap.size]? = some (.cells #[.int .i64 b.next, .slice a L cap] 25 (0, 0)) := (hgrow.block _ (by simp) (by simp)).trans (heap_alloc_new w _)
      obtain ⟨c0, c1, f0, f1⟩ := two_cells hbx
      have HZ1 := Lib.hid hz1; have HX1 := Lib.hid hbx
      clear hown hgrow hz1 hbx f0 f1
      obtain ⟨w2, hw2⟩ : ∃ w2, w2 = w1.alloc (.cells #[.bool true, .iface tx vx, .iface ty vy] 93) := ⟨_, rfl⟩
      have hz2 : w2.heap[w.heap.size + 1]? = some (.cells (Bools (upto (found b k) 0) L) 4 (0, 0)) := by rw [hw2]; exact (Below.heap_alloc _ _ _ (by omega)).trans HZ1.out
      have hx2 : w2.heap[w.heap.size]? = some (.cells #[.int .i64 b.next, .slice a L cap] 25 (0, 0)) := by rw [hw2]; exact (Below.heap_alloc _ _ _ (by omega)).trans HX1.out
      have hy2 : w2.heap[w1.heap.size]? = some (.cells #[.bool true, .iface tx vx, .iface ty vy] 93 (0, 0)) := by rw [hw2]; exact heap_alloc_new w1 _
      have hb2 : Below w.heap.size w w2 := by rw [hw2]; exact hb1.alloc hb1.size _
      have HW2 := Lib.hid hw2; have HZ2 := Lib.hid hz2; have HY2 := Lib.hid hy2; have HX2 := Lib.hid hx2
      have hs0 : w.heap.size < w1.heap.size := by omega
      have hs2 : w.heap.size + 1 < w2.heap.size := lt_of_block hz2
      clear hw2 hz2 hy2 hb1 HZ1 HX1 hx2
      obtain ⟨fb, hfb⟩ : ∃ fb, w1.heap.size = fb := ⟨_, rfl⟩
      rw [hfb] at HY2 hs1
      have HFB := Lib.hid hfb
      have HST := Lib.hid (fun (W : World) (q : Below w2.heap.size w2 W) => And.intro (two_cells ((q.block _ (lt_of_block HX2.out)).trans HX2.out)) (And.intro (three_cells ((q.block _ (lt_of_block HY2.out)).trans HY2.out)) ((q.block _ hs2).trans HZ2.out)))
      clear hfb
      go_wp2_with fail
      rw [HFB.out, ← HW2.out]
      obtain ⟨⟨a0, a1, t0, t1⟩, ⟨p0, p1, p2⟩, t2⟩ := HST.out w2 (Below.refl _ _)
      clear c0 c1 t0 t1 t2
      go_region_held3 (fun W => (W.cell? ⟨w.heap.size, 0, none⟩ = some (.int .i64 b.next) ∧ W.cell? ⟨w.heap.size, 1, none⟩ = some (.slice a L cap)) ∧ W.cell? ⟨fb, 0, none⟩ = some (.bool true) ∧ W.cell? ⟨fb, 1, none⟩ = some (.iface tx vx) ∧ W.cell? ⟨fb, 2, none⟩ = some (.iface ty vy)) (first | exact ⟨⟨a0, a1⟩, p0, p1, p2⟩ | (go_keep; done)) (first | (go_at_call 33; (fail_if_success (have hx := b24)); refine (HI.out _ (by first | exact hb2 | exact hb2.drew | exact hb2.drew.drew)).mono ?_; rintro e w4 ⟨gl, rfl, hg1, hg2, q4⟩; have b24 : Below w2.heap.size w2 w4 := Below.trans (by first | exact Below.refl _ _ | exact (Below.refl _ _).drew | exact (Below.refl _ _).drew.drew) q4; have hb4 := hb2.trans (b24.mono hb2.size); replace hg1 : w2.heap.size ≤ gl := hg1; have HGL := Lib.hid hg2; clear a0 a1 p0 p1 p2; obtain ⟨⟨a0, a1, t0, t1⟩, ⟨p0, p1, p2⟩, t2⟩ := HST.out w4 b24; clear q4 hg2 t0 t1 t2) | (go_at_call 33; refine (HJ.out _ (by first | exact hb4 | exact hb4.drew | exact hb4.drew.drew)).mono ?_; rintro e w5 ⟨gr, rfl, hh1, hh2, q5⟩; have b25 : Below w2.heap.size w2 w5 := Below.trans (by first | exact b24 | exact b24.drew | exact b24.drew.drew) (q5.mono (by show _ ≤ w4.heap.size; exact b24.size)); have hb5 := hb2.trans (b25.mono hb2.size); replace hh1 : w4.heap.size ≤ gr := hh1; have HGR := Lib.hid hh2; have HGL5 := Lib.hid ((q5.block gl (by show gl < w4.heap.size; exact lt_of_block HGL.out)).trans HGL.out); have hz5 := (HST.out w5 b25).2.2; have HZ5 := Lib.hid hz5; clear a0 a1 p0 p1 p2; obtain ⟨⟨a0, a1, t0, t1⟩, ⟨p0, p1, p2⟩, t2⟩ := HST.out w5 b25; have HY5 := Lib.hid ((b25.block _ (lt_of_block HY2.out)).trans HY2.out); clear q5 hh2 hz5 t0 t1 t2))
      have hlr : gl < gr := by have := lt_of_block HGL.out; omega
      have hfl : w.heap.size + 1 < gl := by omega
      have h2b := b24.size
      clear HGL HST HY2 HZ2 HX2 HW2 b24 b25 hb4 hs0 a0 a1 p1 p2
      go_wp2_with fail
      go_loopg [160] L (fun gk i wr => ∃ n : Nat, n + gk = L ∧ i = .int .i64 n ∧ Hid (wr.heap[w.heap.size + 1]? = some (.cells (Bools (upto (found b k) n) L) 4 (0, 0))) ∧ Hid (wr.heap[gl]? = some (.cells (Bools (found b (k.keys[0]'h0)) L) 4 (0, 0))) ∧ Hid (wr.heap[gr]? = some (.cells (Bools (found b (k.keys[1]'h1)) L) 4 (0, 0))) ∧ Hid (wr.heap[fb]? = some (.cells #[.bool true, .iface tx vx, .iface ty vy] 93 (0, 0))) ∧ Below w.heap.size w wr)
      case atStart => exact ⟨0, by omega, rfl, HZ5.out, HGL5.out, HGR.out, HY5.out, (by first | exact hb5 | exact hb5.drew | exact below_drewN hb5 _)⟩
      case round =>
        clear HZ5 HGL5 HGR HY5 hb5 hb2 p0
        obtain ⟨n, hn, rfl, HZ, HGL, HGR, HY, hq⟩ := hrel
        by_cases hlt : n < L
        · have hlt' : n < b.mail.length := by rw [HL.out]; exact hlt
          have hf := and_node hk h1 (List.getElem?_eq_getElem hlt')
          obtain ⟨k0, k1⟩ := Bools.cell HZ.out hlt
          obtain ⟨y0, y1⟩ := Bools.cell HGL.out hlt
          obtain ⟨z0, z1⟩ := Bools.cell HGR.out hlt
          obtain ⟨p0, p1, p2⟩ := three_cells HY.out
          generalize found b (k.keys[0]'h0) n = r at hf y0
          generalize found b (k.keys[1]'h1) n = s at hf z0
          have hnI : (n : Int) < (L : Int) := by omega
          have HF := Lib.hid hf
          clear hf hlt' y1 z1 p1 p2
          rcases r with _ | _
          all_goals rcases s with _ | _
          all_goals
            go_wp2_with fail
            go_roundg (gk - 1)
            case measure => omega
            case rel => exact ⟨n + 1, by omega, by go_num, Bools.next HZ.out HF.out, (Below.heap_setCell _ _ _ _ (by show gl ≠ w.heap.size + 1; omega)).trans HGL.out, (Below.heap_setCell _ _ _ _ (by show gr ≠ w.heap.size + 1; omega)).trans HGR.out, (Below.heap_setCell _ _ _ _ (by show fb ≠ w.heap.size + 1; omega)).trans HY.out, hq.setCell (by show w.heap.size ≤ w.heap.size + 1; omega) _⟩
        · obtain rfl : n = L := by omega
          go_wp2_with fail
          go_ret
          exact ⟨_, rfl, by omega, Bools.full HZ.out, hq⟩
    ·
      rw [if_neg (by omega), if_neg (by omega), if_neg (by omega), if_neg (by omega), if_neg (by omega), if_neg (by omega)] at hnd
      obtain ⟨h1, x, y, rfl, hx, hy⟩ := hnd
      have h0 : 0 < k.keys.length := by omega
      obtain ⟨tx, vx, rfl⟩ := hx.iface
      obtain ⟨ty, vy, rfl⟩ := hy.iface
      have hIH := fun (W : World) (q : Below w.heap.size w W) => IH.out _ (List.getElem_mem h0) (.agg #[.int .i64 b.next, .slice a L cap]) _ S W (hx.below hN q) (hN.below q) (HB.out.below q) (HU.out _ (List.getElem_mem h0)) (hMI.below q)
      have hJH := fun (W : World) (q : Below w.heap.size w W) => IH.out _ (List.getElem_mem h1) (.agg #[.int .i64 b.next, .slice a L cap]) _ S W (hy.below hN q) (hN.below q) (HB.out.below q) (HU.out _ (List.getElem_mem h1)) (hMI.below q)
      rw [HL.out] at hIH hJH
      have HI := Lib.hid hIH; have HJ := Lib.hid hJH
      clear g0 g7 g4 g5 g6 hIH hJH hx hy HM IH
      have q0 := ask_all 93 (by decide)
      have q1 := ask_has 93 (by decide)
      have q2 := ask_text 93 (by decide)
      have q3 := ask_place 93 (by decide)
      have q4 := ask_uid 93 (by decide)
      have q5 := ask_not 93 (by decide)
      have q6 := tell_pair
      rw [show (k.kind == 6) = false from by rw [hk]; rfl]
      go_enter Tryd.func33, Tryd.ntmps33
      go_wp2_with (refine wpList_make_full _ rfl _ _ _ rfl w.heap.size 4 j0 (.bool false) 1 Tryd.underlying57 hj hy0 hy1 .i64 .i64 _ _ L rfl rfl rfl rfl (by rw [hy2]; omega) (by unfold maxLen; omega) (by simp) ?_)
      intro w1 hown hgrow
      have hz1 := made_bools (f := found b k) hown
      have hb1 : Below w.heap.size w w1 := Below.grown (by go_grown) hgrow (by simp) (fun k hk => by cases hk)
      have hs1 : w.heap.size + 1 < w1.heap.size := by have := lt_of_block hz1; simpa using this
      have hbx : w1.heap[w.heap.size]? = some (.cells #[.int .i64 b.next, .slice a L cap] 25 (0, 0)) := (hgrow.block _ (by simp) (by simp)).trans (heap_alloc_new w _)
      obtain ⟨c0, c1, f0, f1⟩ := two_cells hbx
      have HZ1 := Lib.hid hz1; have HX1 := Lib.hid hbx
      clear hown hgrow hz1 hbx f0 f1
      obtain ⟨w2, hw2⟩ : ∃ w2, w2 = w1.alloc (.cells #[.bool false, .iface tx vx, .iface ty vy] 93) := ⟨_, rfl⟩
      have hz2 : w2.heap[w.heap.size + 1]? = some (.cells (Bools (upto (found b k) 0) L) 4 (0, 0)) := by rw [hw2]; exact (Below.heap_alloc _ _ _ (by omega)).trans HZ1.out
      have hx2 : w2.heap[w.heap.size]? = some (.cells #[.int .i64 b.next, .slice a L cap] 25 (0, 0)) := by rw [hw2]; exact (Below.heap_alloc _ _ _ (by omega)).trans HX1.out
      have hy2 : w2.heap[w1.heap.size]? = some (.cells #[.bool false, .iface tx vx, .iface ty vy] 93 (0, 0)) := by rw [hw2]; exact heap_alloc_new w1 _
      have hb2 : Below w.heap.size w w2 := by rw [hw2]; exact hb1.alloc hb1.size _
      have HW2 := Lib.hid hw2; have HZ2 := Lib.hid hz2; have HY2 := Lib.hid hy2; have HX2 := Lib.hid hx2
      have hs0 : w.heap.size < w1.heap.size := by omega
      have hs2 : w.heap.size + 1 < w2.heap.size := lt_of_block hz2
      clear hw2 hz2 hy2 hb1 HZ1 HX1 hx2
      obtain ⟨fb, hfb⟩ : ∃ fb, w1.heap.size = fb := ⟨_, rfl⟩
      rw [hfb] at HY2 hs1
      have HFB := Lib.hid hfb
      have HST := Lib.hid (fun (W : World) (q : Below w2.heap.size w2 W) => And.intro (two_cells ((q.block _ (lt_of_block HX2.out)).trans HX2.out)) (And.intro (three_cells ((q.block _ (lt_of_block HY2.out)).trans HY2.out)) ((q.block _ hs2).trans HZ2.out)))
      clear hfb
      go_wp2_with fail
      rw [HFB.out, ← HW2.out]
      obtain ⟨⟨a0, a1, t0, t1⟩, ⟨p0, p1, p2⟩, t2⟩ := HST.out w2 (Below.refl _ _)
      clear c0 c1 t0 t1 t2
      go_region_held3 (fun W => (W.cell? ⟨w.heap.size, 0, none⟩ = some (.int .i64 b.next) ∧ W.cell? ⟨w.heap.size, 1, none⟩ = some (.slice a L cap)) ∧ W.cell? ⟨fb, 0, none⟩ = some (.bool false) ∧ W.cell? ⟨fb, 1, none⟩ = some (.iface tx vx) ∧ W.cell? ⟨fb, 2, none⟩ = some (.iface ty vy)) (first | exact ⟨⟨a0, a1⟩, p0, p1, p2⟩ | (go_keep; done)) (first | (go_at_call 33; (fail_if_success (have hx := b24)); refine (HI.out _ (by first | exact hb2 | exact hb2.drew | exact hb2.drew.drew)).mono ?_; rintro e w4 ⟨gl, rfl, hg1, hg2, q4⟩; have b24 : Below w2.heap.size w2 w4 := Below.trans (by first | exact Below.refl _ _ | exact (Below.refl _ _).drew | exact (Below.refl _ _).drew.drew) q4; have hb4 := hb2.trans (b24.mono hb2.size); replace hg1 : w2.heap.size ≤ gl := hg1; have HGL := Lib.hid hg2; clear a0 a1 p0 p1 p2; obtain ⟨⟨a0, a1, t0, t1⟩, ⟨p0, p1, p2⟩, t2⟩ := HST.out w4 b24; clear q4 hg2 t0 t1 t2) | (go_at_call 33; refine (HJ.out _ (by first | exact hb4 | exact hb4.drew | exact hb4.drew.drew)).mono ?_; rintro e w5 ⟨gr, rfl, hh1, hh2, q5⟩; have b25 : Below w2.heap.size w2 w5 := Below.trans (by first | exact b24 | exact b24.drew | exact b24.drew.drew) (q5.mono (by show _ ≤ w4.heap.size; exact b24.size)); have hb5 := hb2.trans (b25.mono hb2.size); replace hh1 : w4.heap.size ≤ gr := hh1; have HGR := Lib.hid hh2; have HGL5 := Lib.hid ((q5.block gl (by show gl < w4.heap.size; exact lt_of_block HGL.out)).trans HGL.out); have hz5 := (HST.out w5 b25).2.2; have HZ5 := Lib.hid hz5; clear a0 a1 p0 p1 p2; obtain ⟨⟨a0, a1, t0, t1⟩, ⟨p0, p1, p2⟩, t2⟩ := HST.out w5 b25; have HY5 := Lib.hid ((b25.block _ (lt_of_block HY2.out)).trans HY2.out); clear q5 hh2 hz5 t0 t1 t2))
      have hlr : gl < gr := by have := lt_of_block HGL.out; omega
      have hfl : w.heap.size + 1 < gl := by omega
      have h2b := b24.size
      clear HGL HST HY2 HZ2 HX2 HW2 b24 b25 hb4 hs0 a0 a1 p1 p2
      go_wp2_with fail
      go_loopg [160] L (fun gk i wr => ∃ n : Nat, n + gk = L ∧ i = .int .i64 n ∧ Hid (wr.heap[w.heap.size + 1]? = some (.cells (Bools (upto (found b k) n) L) 4 (0, 0))) ∧ Hid (wr.heap[gl]? = some (.cells (Bools (found b (k.keys[0]'h0)) L) 4 (0, 0))) ∧ Hid (wr.heap[gr]? = some (.cells (Bools (found b (k.keys[1]'h1)) L) 4 (0, 0))) ∧ Hid (wr.heap[fb]? = some (.cells #[.bool false, .iface tx vx, .iface ty vy] 93 (0, 0))) ∧ Below w.heap.size w wr)
      case atStart => exact ⟨0, by omega, rfl, HZ5.out, HGL5.out, HGR.out, HY5.out, (by first | exact hb5 | exact hb5.drew | exact below_drewN hb5 _)⟩
      case round =>
        clear HZ5 HGL5 HGR HY5 hb5 hb2 p0
        obtain ⟨n, hn, rfl, HZ, HGL, HGR, HY, hq⟩ := hrel
        by_cases hlt : n < L
        · have hlt' : n < b.mail.length := by rw [HL.out]; exact hlt
          have hf := or_node hk h1 (List.getElem?_eq_getElem hlt')
          obtain ⟨k0, k1⟩ := Bools.cell HZ.out hlt
          obtain ⟨y0, y1⟩ := Bools.cell HGL.out hlt
          obtain ⟨z0, z1⟩ := Bools.cell HGR.out hlt
          obtain ⟨p0, p1, p2⟩ := three_cells HY.out
          generalize found b (k.keys[0]'h0) n = r at hf y0
          generalize found b (k.keys[1]'h1) n = s at hf z0
          have hnI : (n : Int) < (L : Int) := by omega
          have HF := Lib.hid hf
          clear hf hlt' y1 z1 p1 p2
          rcases r with _ | _
          all_goals rcases s with _ | _
          all_goals
            go_wp2_with fail
            go_roundg (gk - 1)
            case measure => omega
            case rel => exact ⟨n + 1, by omega, by go_num, Bools.next HZ.out HF.out, (Below.heap_setCell _ _ _ _ (by show gl ≠ w.heap.size + 1; omega)).trans HGL.out, (Below.heap_setCell _ _ _ _ (by show gr ≠ w.heap.size + 1; omega)).trans HGR.out, (Below.heap_setCell _ _ _ _ (by show fb ≠ w.heap.size + 1; omega)).trans HY.out, hq.setCell (by show w.heap.size ≤ w.heap.size + 1; omega) _⟩
        · obtain rfl : n = L := by omega
          go_wp2_with fail
          go_ret
          exact ⟨_, rfl, by omega, Bools.full HZ.out, hq⟩
end Go.Proofs.YtlkfaamjbecieaaDoor

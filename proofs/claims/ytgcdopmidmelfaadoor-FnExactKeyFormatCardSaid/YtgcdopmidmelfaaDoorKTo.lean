/- WALKS: a key that comes in is copied. -/
import Derived.Test.YtgcdopmidmelfaaDoorKIn
import Derived.WalkKit
import Derived.IntWalk
import Derived.Deep.DrawnRows
import Derived.Laws.MakeOwn
namespace Go.Proofs.YtgcdopmidmelfaaDoor
open Go.RowKit
set_option linter.unusedVariables false

theorem run_make_rowN {P : Program} (t e : TypeId) (i : TypeInfo) (z : Value) (ht : P.underlying t = some (.slice e)) (hi : P.info? e = some i) (hz : i.zero = some z)
    (kl kc : IntKind) (n c : Nat) (hnc : n ≤ c) (hbytes : i.bytes * c ≤ 281474976710656) (h63 : c ≤ 9223372036854775807) (w : World) :
    (Instr.makeSlice t (.int kl (n : Int)) (.int kc (c : Int))).run P w = .ok (.slice (some ⟨w.heap.size, 0, none⟩) n c) (w.alloc (.cells (madeCells z.cells (c * i.size)) e)) := by
  have hb : (i.bytes : Int) * (c : Int) ≤ 281474976710656 := by
    have h : ((i.bytes * c : Nat) : Int) ≤ 281474976710656 := by omega
    rwa [Int.natCast_mul] at h
  have hr := run_make (P := P) w t e i z ht hi hz kl kc n c (by omega) (by omega) hb (by omega)
  simp only [Int.toNat_natCast] at hr
  exact hr
/-! A block of cells, place by place. -/
def RowAt (w : World) (g : Nat) (t : TypeId) (cur : Array Value) : Prop := w.heap[g]? = some (.cells cur t (0, 0))
theorem RowAt.lt {w : World} {g : Nat} {t : TypeId} {cur : Array Value} (h : RowAt w g t cur) : g < w.heap.size := lt_of_block h
theorem RowAt.cell {w : World} {g : Nat} {t : TypeId} {cur : Array Value} (h : RowAt w g t cur) {j : Nat} {v : Value} (hv : cur[j]? = some v) : w.cell? ⟨g, j, none⟩ = some v := cell_of_block h hv
theorem RowAt.froz {w : World} {g : Nat} {t : TypeId} {cur : Array Value} (h : RowAt w g t cur) (j : Nat) : w.frozen? ⟨g, j, none⟩ = false := by
  unfold RowAt at h; simp [World.frozen?, h]
theorem RowAt.set {w : World} {g : Nat} {t : TypeId} {cur : Array Value} (h : RowAt w g t cur) (j : Nat) (v : Value) : RowAt (w.setCell ⟨g, j, none⟩ v) g t (cur.setIfInBounds j v) := by
  have hlt := lt_of_block h
  have h' : w.heap[g] = .cells cur t (0, 0) := by unfold RowAt at h; simpa [Array.getElem?_eq_getElem hlt] using h
  show (w.heap.modify g _)[g]? = _
  rw [Array.getElem?_eq_getElem (by simpa using hlt), Array.getElem_modify_self, h']
  rfl
theorem RowAt.below {w w' : World} {g : Nat} {t : TypeId} {cur : Array Value} (h : RowAt w g t cur) (q : Below w.heap.size w w') : RowAt w' g t cur := (q.block _ h.lt).trans h
theorem set_ne {cur : Array Value} {j k : Nat} {v : Value} (h : j ≠ k) : (cur.setIfInBounds j v)[k]? = cur[k]? := by rw [Array.getElem?_setIfInBounds, if_neg h]
theorem set_eq {cur : Array Value} {j : Nat} {v : Value} (h : j < cur.size) : (cur.setIfInBounds j v)[j]? = some v := by rw [Array.getElem?_setIfInBounds, if_pos rfl, if_pos h]
theorem at_lt {cur : Array Value} {j : Nat} (h : j < cur.size) : ∃ v, cur[j]? = some v := ⟨_, Array.getElem?_eq_getElem h⟩
theorem fiveC {w : World} {g : Nat} {t : TypeId} {a b c d e : Value} (h : RowAt w g t #[a, b, c, d, e]) :
    (w.cell? ⟨g, 0, none⟩ = some a ∧ w.cell? ⟨g, 1, none⟩ = some b ∧ w.cell? ⟨g, 2, none⟩ = some c ∧ w.cell? ⟨g, 3, none⟩ = some d ∧ w.cell? ⟨g, 4, none⟩ = some e) ∧
    (w.frozen? ⟨g, 0, none⟩ = false ∧ w.frozen? ⟨g, 1, none⟩ = false ∧ w.frozen? ⟨g, 2, none⟩ = false ∧ w.frozen? ⟨g, 3, none⟩ = false ∧ w.frozen? ⟨g, 4, none⟩ = false) :=
  ⟨⟨h.cell rfl, h.cell rfl, h.cell rfl, h.cell rfl, h.cell rfl⟩, h.froz _, h.froz _, h.froz _, h.froz _, h.froz _⟩
/-- The first n spans are copied. -/
def SpRow (g L : Nat) (t : TypeId) (l : List (Int × Int)) (n : Nat) (W : World) : Prop :=
  ∃ cur, RowAt W g t cur ∧ cur.size = L * 2 ∧ ∀ i s, i < n → l[i]? = some s → cur[i * 2]? = some (.int .i64 s.1) ∧ cur[i * 2 + 1]? = some (.int .i64 s.2)
theorem SpRow.next {g L n : Nat} {t : TypeId} {l : List (Int × Int)} {W W' : World} (h : SpRow g L t l n W) (q : Below W.heap.size W W') (hn : n < L) {s : Int × Int} (hs : l[n]? = some s) :
    (∃ u0 u1, W'.cell? ⟨g, n * 2, none⟩ = some u0 ∧ W'.cell? ⟨g, n * 2 + 1, none⟩ = some u1) ∧ (W'.frozen? ⟨g, n * 2, none⟩ = false ∧ W'.frozen? ⟨g, n * 2 + 1, none⟩ = false) ∧ g < W'.heap.size ∧
    SpRow g L t l (n + 1) ((W'.setCell ⟨g, n * 2, none⟩ (.int .i64 s.1)).setCell ⟨g, n * 2 + 1, none⟩ (.int .i64 s.2)) := by
  obtain ⟨cur, hr, hz, hc⟩ := h
  replace hr := hr.below q
  obtain ⟨u0, h0⟩ := at_lt (cur := cur) (j := n * 2) (by omega)
  obtain ⟨u1, h1⟩ := at_lt (cur := cur) (j := n * 2 + 1) (by omega)
  refine ⟨⟨u0, u1, hr.cell h0, hr.cell h1⟩, ⟨hr.froz _, hr.froz _⟩, hr.lt, _, (hr.set _ _).set _ _, by simpa using hz, fun i s' hi hs' => ?_⟩
  by_cases e : i = n
  · subst e
    rw [hs] at hs'; cases hs'
    exact ⟨by rw [set_ne (by omega), set_eq (by omega)], by rw [set_eq (by simp; omega)]⟩
  · have := hc i s' (by omega) hs'
    exact ⟨by rw [set_ne (by omega), set_ne (by omega)]; exact this.1, by rw [set_ne (by omega), set_ne (by omega)]; exact this.2⟩
/-- The first n keys are copied. -/
def KyRow (g L : Nat) (t : TypeId) (ks : List K) (n : Nat) (W : World) : Prop :=
  ∃ cur, RowAt W g t cur ∧ cur.size = L * 5 ∧ ∀ i (h : i < ks.length), i < n → ∃ c0 c1 c2 c3 c4, cur[i * 5]? = some c0 ∧ cur[i * 5 + 1]? = some c1 ∧ cur[i * 5 + 2]? = some c2 ∧ cur[i * 5 + 3]? = some c3 ∧ cur[i * 5 + 4]? = some c4 ∧
    KeyAt W (fun j => g < j ∧ j < W.heap.size) ks[i] (.agg #[c0, c1, c2, c3, c4])
def set5 (W : World) (g n : Nat) (a b c d e : Value) : World :=
  ((((W.setCell ⟨g, n * 5, none⟩ a).setCell ⟨g, n * 5 + 1, none⟩ b).setCell ⟨g, n * 5 + 2, none⟩ c).setCell ⟨g, n * 5 + 3, none⟩ d).setCell ⟨g, n * 5 + 4, none⟩ e
theorem set5_size (W : World) (g n : Nat) (a b c d e : Value) : (set5 W g n a b c d e).heap.size = W.heap.size := by simp [set5, World.setCell]
theorem set5_heap (W : World) (g n : Nat) (a b c d e : Value) (j : Nat) (h : g ≠ j) : (set5 W g n a b c d e).heap[j]? = W.heap[j]? := by
  unfold set5
  rw [Below.heap_setCell _ _ _ _ (by show j ≠ g; omega), Below.heap_setCell _ _ _ _ (by show j ≠ g; omega), Below.heap_setCell _ _ _ _ (by show j ≠ g; omega), Below.heap_setCell _ _ _ _ (by show j ≠ g; omega), Below.heap_setCell _ _ _ _ (by show j ≠ g; omega)]
theorem KyRow.next {g L n : Nat} {t : TypeId} {ks : List K} {W W' : World} (h : KyRow g L t ks n W) (q : Below W.heap.size W W') (hn : n < L) (hl : n < ks.length) {a b c d e : Value}
    (hk : KeyAt W' (fun j => W.heap.size ≤ j ∧ j < W'.heap.size) ks[n] (.agg #[a, b, c, d, e])) :
    (∃ u0 u1 u2 u3 u4, W'.cell? ⟨g, n * 5, none⟩ = some u0 ∧ W'.cell? ⟨g, n * 5 + 1, none⟩ = some u1 ∧ W'.cell? ⟨g, n * 5 + 2, none⟩ = some u2 ∧ W'.cell? ⟨g, n * 5 + 3, none⟩ = some u3 ∧ W'.cell? ⟨g, n * 5 + 4, none⟩ = some u4) ∧
    (W'.frozen? ⟨g, n * 5, none⟩ = false ∧ W'.frozen? ⟨g, n * 5 + 1, none⟩ = false ∧ W'.frozen? ⟨g, n * 5 + 2, none⟩ = false ∧ W'.frozen? ⟨g, n * 5 + 3, none⟩ = false ∧ W'.frozen? ⟨g, n * 5 + 4, none⟩ = false) ∧ g < W'.heap.size ∧
    KyRow g L t ks (n + 1) (set5 W' g n a b c d e) := by
  obtain ⟨cur, hr, hz, hc⟩ := h
  have hg := hr.lt
  replace hr := hr.below q
  obtain ⟨u0, h0⟩ := at_lt (cur := cur) (j := n * 5) (by omega)
  obtain ⟨u1, h1⟩ := at_lt (cur := cur) (j := n * 5 + 1) (by omega)
  obtain ⟨u2, h2⟩ := at_lt (cur := cur) (j := n * 5 + 2) (by omega)
  obtain ⟨u3, h3⟩ := at_lt (cur := cur) (j := n * 5 + 3) (by omega)
  obtain ⟨u4, h4⟩ := at_lt (cur := cur) (j := n * 5 + 4) (by omega)
  have hs := q.size
  refine ⟨⟨u0, u1, u2, u3, u4, hr.cell h0, hr.cell h1, hr.cell h2, hr.cell h3, hr.cell h4⟩, ⟨hr.froz _, hr.froz _, hr.froz _, hr.froz _, hr.froz _⟩, hr.lt, _, ((((hr.set _ _).set _ _).set _ _).set _ _).set _ _, by simpa using hz, fun i hi hin => ?_⟩
  by_cases e' : i = n
  · subst e'
    refine ⟨a, b, c, d, e, ?_, ?_, ?_, ?_, ?_, ?_⟩
    · rw [set_ne (by omega), set_ne (by omega), set_ne (by omega), set_ne (by omega), set_eq (by omega)]
    · rw [set_ne (by omega), set_ne (by omega), set_ne (by omega), set_eq (by simp; omega)]
    · rw [set_ne (by omega), set_ne (by omega), set_eq (by simp; omega)]
    · rw [set_ne (by omega), set_eq (by simp; omega)]
    · rw [set_eq (by simp; omega)]
    · exact KeyAt.kept (fun j hj => ⟨by omega, by rw [set5_size]; exact hj.2⟩) (fun j hj => set5_heap _ _ _ _ _ _ _ _ _ (by omega)) _ _ hk
  · obtain ⟨c0, c1, c2, c3, c4, k0, k1, k2, k3, k4, hh⟩ := hc i hi (by omega)
    refine ⟨c0, c1, c2, c3, c4, ?_, ?_, ?_, ?_, ?_, ?_⟩
    · rw [set_ne (by omega), set_ne (by omega), set_ne (by omega), set_ne (by omega), set_ne (by omega)]; exact k0
    · rw [set_ne (by omega), set_ne (by omega), set_ne (by omega), set_ne (by omega), set_ne (by omega)]; exact k1
    · rw [set_ne (by omega), set_ne (by omega), set_ne (by omega), set_ne (by omega), set_ne (by omega)]; exact k2
    · rw [set_ne (by omega), set_ne (by omega), set_ne (by omega), set_ne (by omega), set_ne (by omega)]; exact k3
    · rw [set_ne (by omega), set_ne (by omega), set_ne (by omega), set_ne (by omega), set_ne (by omega)]; exact k4
    · refine KeyAt.kept (fun j hj => ⟨hj.1, by rw [set5_size]; omega⟩) (fun j hj => (set5_heap _ _ _ _ _ _ _ _ _ (by omega)).trans (q.block _ hj.2)) _ _ hh
theorem below_set5 {N : Nat} {w W : World} (h : Below N w W) {g n : Nat} (hg : N ≤ g) (a b c d e : Value) : Below N w (set5 W g n a b c d e) :=
  ((((h.setCell (by show N ≤ g; exact hg) _).setCell (by show N ≤ g; exact hg) _).setCell (by show N ≤ g; exact hg) _).setCell (by show N ≤ g; exact hg) _).setCell (by show N ≤ g; exact hg) _
theorem info_parts {P : Program} {t : TypeId} {z : Option Value} {n b : Nat} (h : (P.info? t).map (fun i => (i.zero, i.size, i.bytes)) = some (z, n, b)) : ∃ i, P.info? t = some i ∧ i.zero = z ∧ i.size = n ∧ i.bytes = b := by
  rcases hi : P.info? t with _ | i
  · rw [hi] at h; cases h
  · rw [hi] at h
    simp only [Option.map_some, Option.some.injEq, Prod.mk.injEq] at h
    exact ⟨i, rfl, h⟩
theorem Tryd.infoSpan : (Tryd.prog.info? 49).map (fun i => (i.zero, i.size, i.bytes)) = some (some (.agg #[.int .i64 0, .int .i64 0]), 2, 16) := by kernel_rfl
theorem Tryd.infoKey : (Tryd.prog.info? 31).map (fun i => (i.zero, i.size, i.bytes)) = some (some (.agg #[.int .i64 0, .int .i64 0, .string ⟨#[]⟩, .slice none 0 0, .slice none 0 0]), 5, 80) := by kernel_rfl
theorem toSpan_any (s : Int × Int) (w : World) : Calls Tryd.prog 24 #[.agg #[.int .i64 s.1, .int .i64 s.2]] w fun e w' => e = .returned (.agg #[.int .i64 s.1, .int .i64 s.2]) ∧ Below w.heap.size w w' := by
  obtain ⟨u, f⟩ := s
  dsimp only
  go_enter Tryd.func24, Tryd.ntmps24
  go_wp2_with fail
  refine bodyPost_ret (v := .agg #[.int .i64 u, .int .i64 f]) (by simp [results, Tryd.results24, go_sem]) rfl ⟨rfl, ?_⟩
  go_grown
set_option maxHeartbeats 1000000 in
theorem toSpanS_any (l : List (Int × Int)) (v : Value) (w : World) (h : SetIn w v l) (hl : l.length ≤ 1048576) :
    Calls Tryd.prog 16 #[v] w fun e w' => e = .returned (.slice (some ⟨w.heap.size, 0, none⟩) l.length l.length) ∧ SpRow w.heap.size l.length 49 l l.length w' ∧ Below w.heap.size w w' := by
  obtain ⟨a, L, cap, rfl, rfl, hc, hcm, hmail⟩ := h
  have hcm1 := hcm.1
  unfold maxLen at hcm1
  clear hcm
  obtain ⟨i0, hi, hz0, hz1, hz2⟩ := info_parts Tryd.infoSpan
  have hmk := run_make_rowN (P := Tryd.prog) 28 49 i0 (.agg #[.int .i64 0, .int .i64 0]) Tryd.underlying28 hi hz0 .i64 .i64 l.length l.length (Nat.le_refl _) (by rw [hz2]; omega) (by omega) w
  rw [hz1] at hmk
  obtain ⟨w1, hw1⟩ : ∃ w1, w1 = w.alloc (.cells (madeCells #[.int .i64 0, .int .i64 0] (l.length * 2)) 49) := ⟨_, rfl⟩
  have hmk2 : (Instr.makeSlice 28 (.int .i64 (l.length : Int)) (.int .i64 (l.length : Int))).run Tryd.prog w = .ok (.slice (some ⟨w.heap.size, 0, none⟩) l.length l.length) w1 := by rw [hw1]; exact hmk
  have ho : SpRow w.heap.size l.length 49 l 0 w1 := ⟨_, by rw [hw1]; exact heap_alloc_new w _, by simp [madeCells], fun i s hi => by omega⟩
  have q1 : Below w.heap.size w w1 := by rw [hw1]; exact (Below.refl _ _).alloc (Nat.le_refl _) _
  have HO := Lib.hid ho
  clear hmk hw1 ho hi hz0 hz1 hz2
  go_enter Tryd.func16, Tryd.ntmps16
  go_wp2_with fail
  clear hmk2
  go_loopw [4] (fun i wr => ∃ (n : Nat), n ≤ l.length ∧ i = .int .i64 n ∧ Hid (SpRow w.heap.size l.length 49 l n wr) ∧ Below w.heap.size w wr) (fun i _ => l.length - (intOf i).toNat)
  case atStart => exact ⟨0, by omega, rfl, HO, q1⟩
  case round =>
    obtain ⟨n, hn, rfl, HO2, hq⟩ := hrel
    clear HO q1
    by_cases hlt : n < l.length
    · rcases hmail with h0 | ⟨g, off, rfl, hg, hcells⟩
      · omega
      have hm := List.getElem?_eq_getElem hlt
      generalize l[n] = m at hm
      obtain ⟨c0, c1⟩ := hcells n _ hm
      replace c0 := (hq.cell (p := ⟨g, _, none⟩) hg).trans c0
      replace c1 := (hq.cell (p := ⟨g, _, none⟩) hg).trans c1
      have HM := Lib.hid hm
      clear hcells hm
      have hnI : (n : Int) < (l.length : Int) := by omega
      go_wp2_with fail
      refine (toSpan_any m _).mono ?_
      rintro e w2 ⟨rfl, q2⟩
      have q3 := hq.trans (q2.mono hq.size)
      obtain ⟨⟨u0, u1, d0, d1⟩, ⟨e0, e1⟩, hgl, hnx⟩ := HO2.out.next q2 hlt HM.out
      have HO3 := Lib.hid hnx
      clear c0 c1 q2 hnx
      go_wp2_with fail
      go_roundw
      case rel => exact ⟨n + 1, by omega, by go_num, HO3, (q3.setCell (by show w.heap.size ≤ w.heap.size; omega) _).setCell (by show w.heap.size ≤ w.heap.size; omega) _⟩
      case measure => simp [intOf]; omega
    · have hnn : n = l.length := by omega
      have ho2 := HO2.out
      rw [hnn] at ho2
      have HO3 := Lib.hid ho2
      clear hmail ho2 hnn
      go_wp2_with fail
      go_ret
      exact ⟨rfl, HO3.out, hq⟩
end Go.Proofs.YtgcdopmidmelfaaDoor

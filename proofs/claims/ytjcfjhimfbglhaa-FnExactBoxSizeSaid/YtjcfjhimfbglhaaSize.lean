/- WALKS: how many bytes the messages of a mailbox have. -/
import Derived.Test.YtjcfjhimfbglhaaBox
namespace Go.Proofs.Ytjcfjhimfbglhaa
open Go.RowKit
set_option linter.unusedVariables false

def bytesOf : List M → Nat
  | [] => 0
  | m :: r => m.text.size + bytesOf r
theorem bytesOf_append (l r : List M) : bytesOf (l ++ r) = bytesOf l + bytesOf r := by
  induction l with
  | nil => simp [bytesOf]
  | cons m l ih => simp [bytesOf, ih]; omega
theorem bytesOf_take {l : List M} {n : Nat} (h : n < l.length) : bytesOf (l.take (n + 1)) = bytesOf (l.take n) + l[n].text.size := by
  rw [take_one h, bytesOf_append]; simp [bytesOf]
theorem bytesOf_le : ∀ (l : List M), (∀ m ∈ l, mok m = true) → bytesOf l ≤ l.length * 20
  | [], _ => by simp [bytesOf]
  | m :: l, h => by
    have := bytesOf_le l fun x hx => h x (List.mem_cons_of_mem _ hx)
    have := mok_text (h m (List.mem_cons_self ..))
    simp only [bytesOf, List.length_cons]
    omega
def sizeOf (b : B) : Int := if bok b then (bytesOf b.mail : Int) else -1

set_option maxHeartbeats 400000 in
theorem implBoxSize_any (b : B) (v : Value) (w : World) (hb : BoxAt w v b) :
    Calls Try.prog 19 #[v] w fun e w' => e = .returned (.int .i64 (sizeOf b)) ∧ Below w.heap.size w w' := by
  have hb' := hb
  obtain ⟨s, rfl, a, L, cap, rfl, hL, hcap, ⟨hmax, hnil⟩, hmail⟩ := hb
  clear hnil
  have HL := Lib.hid hL
  obtain ⟨w1, hw1⟩ : ∃ w1, w1 = w.alloc (.cells #[.int .i64 b.next, .slice a L cap] 29) := ⟨_, rfl⟩
  have bel1 : Below w.heap.size w w1 := by rw [hw1]; exact (Below.refl _ _).alloc (Nat.le_refl _) _
  have hn1 : w1.heap[w.heap.size]? = some (.cells #[.int .i64 b.next, .slice a L cap] 29 (0, 0)) := by rw [hw1]; exact heap_alloc_new w _
  have hz1 : w.heap.size < w1.heap.size := by rw [hw1]; simp
  have HW := Lib.hid hw1
  obtain ⟨cn, cs, _, _⟩ := two_cells hn1
  have K := implBoxValid_any b (.agg #[.int .i64 b.next, .slice a L cap]) w1 (hb'.below bel1)
  have HK := Lib.hid K
  clear hw1 hL hb' K
  go_enter Try.func19, Try.ntmps19
  go_wp2_with fail
  rw [← HW.out]
  refine HK.out.mono ?_
  rintro e w2 ⟨rfl, q2⟩
  have hn := (q2.block _ hz1).trans hn1
  have hz : w.heap.size < w2.heap.size := by have := q2.size; omega
  have hbel : Below w.heap.size w w2 := bel1.trans (q2.mono bel1.size)
  clear cn cs hn1 q2 bel1 hz1 HK HW
  obtain ⟨cn, cs, _, _⟩ := two_cells hn
  clear hn
  rcases hbk : bok b with _ | _
  · have hr : sizeOf b = -1 := by simp [sizeOf, hbk]
    have HR := Lib.hid hr
    clear hr hmail
    go_wp2_with fail
    go_ret
    exact ⟨ret_int HR.out.symm, hbel⟩
  · have hr : sizeOf b = (bytesOf b.mail : Int) := by simp [sizeOf, hbk]
    have HR := Lib.hid hr
    have hl10 := (bok_next hbk).2.2
    have hsz : ∀ n, bytesOf (b.mail.take n) ≤ 200 := fun n => by
      have := bytesOf_le (b.mail.take n) fun m hm => bok_mok hbk m (List.mem_of_mem_take hm)
      have h2 : (b.mail.take n).length ≤ 10 := by simp; omega
      omega
    have ht : ∀ n (h : n < b.mail.length), b.mail[n].text.size ≤ 20 := fun n h => mok_text (bok_mok hbk _ (List.getElem_mem h))
    have HT := Lib.hid ht
    have HS := Lib.hid hsz
    have hL10 : L ≤ 10 := by rw [← HL.out]; exact hl10
    clear hr hbk ht hsz hl10
    go_wp2_with fail
    go_loopw [3, 12] (fun x i wr => ∃ (n y : Nat), n ≤ L ∧ i = .int .i64 n ∧ x = .int .i64 y ∧ y ≤ 200 ∧ Hid (bytesOf (b.mail.take n) = y) ∧ Below w2.heap.size w2 wr) (fun _ i _ => L - (intOf i).toNat)
    case atStart => exact ⟨0, 0, by omega, rfl, rfl, by omega, rfl, Below.refl _ _⟩
    case round =>
      obtain ⟨n, y, hnL, rfl, rfl, hy, HY, hq⟩ := hrel
      by_cases hlt : n < L
      · rcases hmail with h0 | ⟨g, off, rfl, hg, hcells⟩
        · omega
        have hlt' : n < b.mail.length := by rw [HL.out]; exact hlt
        obtain ⟨c0, c1, c2⟩ := hcells n _ (List.getElem?_eq_getElem hlt')
        have k : ∀ o v, w.cell? ⟨g, o, none⟩ = some v → wr.cell? ⟨g, o, none⟩ = some v := fun o v h => (hq.cell (p := ⟨g, o, none⟩) (by have := hbel.size; show g < _; omega)).trans ((hbel.cell (p := ⟨g, o, none⟩) hg).trans h)
        have c0 := k _ _ c0
        have c1 := k _ _ c1
        have c2 := k _ _ c2
        have hst := bytesOf_take hlt'
        have hnew := HS.out (n + 1)
        have htx := HT.out n hlt'
        rw [hst, HY.out] at hnew
        obtain ⟨m, hm⟩ : ∃ m, b.mail[n] = m := ⟨_, rfl⟩
        rw [hm] at c0 c1 c2 hst hnew htx
        have hnx : bytesOf (b.mail.take (n + 1)) = y + m.text.size := by rw [hst, HY.out]
        have HX := Lib.hid hnx
        clear k hcells hm hst hnx
        go_wp2_with fail
        go_roundw
        case rel => exact ⟨n + 1, y + m.text.size, by omega, by go_num, by go_num, by omega, HX.out, hq.alloc hq.size _⟩
        case measure => simp [intOf]; omega
      · have : n = L := by omega
        subst this
        have hy2 : bytesOf b.mail = y := by rw [← HY.out, ← HL.out, List.take_length]
        have HY2 := Lib.hid hy2
        have q4 := hbel.trans (hq.mono hbel.size)
        clear hy2 hmail
        go_wp2_with fail
        go_ret
        exact ⟨ret_int (by rw [HR.out, HY2.out]), q4⟩
set_option maxHeartbeats 400000 in
theorem l11Size_any (b : B) (v : Value) (w : World) (hb : BoxAt w v b) (hbk : bok b = true) :
    Calls Try.prog 48 #[v] w fun e w' => e = .returned (.int .i64 (bytesOf b.mail : Nat)) ∧ Below w.heap.size w w' := by
  obtain ⟨s, rfl, a, L, cap, rfl, hL, hcap, ⟨hmax, hnil⟩, hmail⟩ := hb
  clear hnil
  have HL := Lib.hid hL
  obtain ⟨w2, hw2⟩ : ∃ w2, w2 = w.alloc (.cells #[.int .i64 b.next, .slice a L cap] 29) := ⟨_, rfl⟩
  have hbel : Below w.heap.size w w2 := by rw [hw2]; exact (Below.refl _ _).alloc (Nat.le_refl _) _
  have hn : w2.heap[w.heap.size]? = some (.cells #[.int .i64 b.next, .slice a L cap] 29 (0, 0)) := by rw [hw2]; exact heap_alloc_new w _
  have hz : w.heap.size < w2.heap.size := by rw [hw2]; simp
  have HW := Lib.hid hw2
  obtain ⟨cn, cs, _, _⟩ := two_cells hn
  have hl10 := (bok_next hbk).2.2
  have hsz : ∀ n, bytesOf (b.mail.take n) ≤ 200 := fun n => by
    have := bytesOf_le (b.mail.take n) fun m hm => bok_mok hbk m (List.mem_of_mem_take hm)
    have h2 : (b.mail.take n).length ≤ 10 := by simp; omega
    omega
  have ht : ∀ n (h : n < b.mail.length), b.mail[n].text.size ≤ 20 := fun n h => mok_text (bok_mok hbk _ (List.getElem_mem h))
  have HT := Lib.hid ht
  have HS := Lib.hid hsz
  have hL10 : L ≤ 10 := by rw [← HL.out]; exact hl10
  clear hw2 hL hn hbk ht hsz hl10
  go_enter Try.func48, Try.ntmps48
  go_wp2_with fail
  rw [← HW.out]
  go_loopw [3, 4] (fun x i wr => ∃ (n y : Nat), n ≤ L ∧ i = .int .i64 n ∧ x = .int .i64 y ∧ y ≤ 200 ∧ Hid (bytesOf (b.mail.take n) = y) ∧ Below w2.heap.size w2 wr) (fun _ i _ => L - (intOf i).toNat)
  case atStart => exact ⟨0, 0, by omega, rfl, rfl, by omega, rfl, Below.refl _ _⟩
  case round =>
    obtain ⟨n, y, hnL, rfl, rfl, hy, HY, hq⟩ := hrel
    have d1 := (hq.cell (p := ⟨w.heap.size, 1, none⟩) hz).trans cs
    clear cs cn
    by_cases hlt : n < L
    · rcases hmail with h0 | ⟨g, off, rfl, hg, hcells⟩
      · omega
      have hlt' : n < b.mail.length := by rw [HL.out]; exact hlt
      obtain ⟨c0, c1, c2⟩ := hcells n _ (List.getElem?_eq_getElem hlt')
      have k : ∀ o v, w.cell? ⟨g, o, none⟩ = some v → wr.cell? ⟨g, o, none⟩ = some v := fun o v h => (hq.cell (p := ⟨g, o, none⟩) (by have := hbel.size; show g < _; omega)).trans ((hbel.cell (p := ⟨g, o, none⟩) hg).trans h)
      have c2 := k _ _ c2
      have hst := bytesOf_take hlt'
      have hnew := HS.out (n + 1)
      have htx := HT.out n hlt'
      rw [hst, HY.out] at hnew
      obtain ⟨m, hm⟩ : ∃ m, b.mail[n] = m := ⟨_, rfl⟩
      rw [hm] at c2 hst hnew htx
      have hnx : bytesOf (b.mail.take (n + 1)) = y + m.text.size := by rw [hst, HY.out]
      have HX := Lib.hid hnx
      clear k hcells hm hst hnx c0 c1
      go_wp2_with fail
      go_roundw
      case rel => exact ⟨n + 1, y + m.text.size, by omega, by go_num, by go_num, by omega, HX.out, hq⟩
      case measure => simp [intOf]; omega
    · have : n = L := by omega
      subst this
      have hy2 : bytesOf b.mail = y := by rw [← HY.out, ← HL.out, List.take_length]
      have HY2 := Lib.hid hy2
      have q4 := hbel.trans (hq.mono hbel.size)
      clear hy2 hmail
      go_wp2_with fail
      go_ret
      exact ⟨ret_int (by rw [HY2.out]), q4⟩
theorem specBoxSize_any (b : B) (v : Value) (w : World) (hb : BoxAt w v b) :
    Calls Try.prog 18 #[v] w fun e w' => e = .returned (.int .i64 (sizeOf b)) ∧ Below w.heap.size w w' := by
  have hb' := hb
  obtain ⟨s, rfl, a, L, cap, rfl, hL, hcap, ⟨hmax, hnil⟩, hmail⟩ := hb
  clear hnil hmail hcap hmax
  obtain ⟨w1, hw1⟩ : ∃ w1, w1 = w.alloc (.cells #[.int .i64 b.next, .slice a L cap] 29) := ⟨_, rfl⟩
  have bel1 : Below w.heap.size w w1 := by rw [hw1]; exact (Below.refl _ _).alloc (Nat.le_refl _) _
  have hn1 : w1.heap[w.heap.size]? = some (.cells #[.int .i64 b.next, .slice a L cap] 29 (0, 0)) := by rw [hw1]; exact heap_alloc_new w _
  have hz1 : w.heap.size < w1.heap.size := by rw [hw1]; simp
  have HW := Lib.hid hw1
  obtain ⟨cn, cs, _, _⟩ := two_cells hn1
  have K := specBoxValid_any b (.agg #[.int .i64 b.next, .slice a L cap]) w1 (hb'.below bel1)
  have HK := Lib.hid K
  have HB := Lib.hid hb'
  clear hw1 hL hb' K
  go_enter Try.func18, Try.ntmps18
  go_wp2_with fail
  rw [← HW.out]
  refine HK.out.mono ?_
  rintro e w2 ⟨rfl, q2⟩
  have hn := (q2.block _ hz1).trans hn1
  have hbel : Below w.heap.size w w2 := bel1.trans (q2.mono bel1.size)
  clear cn cs hn1 q2 bel1 hz1 HK HW
  obtain ⟨cn, cs, _, _⟩ := two_cells hn
  clear hn
  rcases hbk : bok b with _ | _
  · have hr : sizeOf b = -1 := by simp [sizeOf, hbk]
    have HR := Lib.hid hr
    clear hr
    go_wp2_with fail
    go_ret
    exact ⟨ret_int HR.out.symm, hbel⟩
  · have hr : sizeOf b = (bytesOf b.mail : Int) := by simp [sizeOf, hbk]
    have HR := Lib.hid hr
    have K := l11Size_any b (.agg #[.int .i64 b.next, .slice a L cap]) w2 (HB.out.below hbel) hbk
    have HK := Lib.hid K
    clear hr K hbk
    go_wp2_with fail
    refine HK.out.mono ?_
    rintro e w3 ⟨rfl, q3⟩
    have q4 := hbel.trans (q3.mono hbel.size)
    go_wp2_with fail
    go_ret
    exact ⟨ret_int (by rw [HR.out]), q4⟩
end Go.Proofs.Ytjcfjhimfbglhaa

/- WALKS: how many nodes a key has, in the reference and in the laws. -/
import Derived.Test.YtgcdopmidmelfaaDoorKMem
import Derived.Test.YtgcdopmidmelfaaDoorFlags
namespace Go.Proofs.YtgcdopmidmelfaaDoor
open Go.RowKit
set_option linter.unusedVariables false

theorem five_cells {w : World} {b : Nat} {x0 x1 x2 x3 x4 : Value} {t : TypeId} (h : w.heap[b]? = some (.cells #[x0, x1, x2, x3, x4] t (0, 0))) :
    w.cell? ⟨b, 0, none⟩ = some x0 ∧ w.cell? ⟨b, 1, none⟩ = some x1 ∧ w.cell? ⟨b, 2, none⟩ = some x2 ∧ w.cell? ⟨b, 3, none⟩ = some x3 ∧ w.cell? ⟨b, 4, none⟩ = some x4 ∧
      w.frozen? ⟨b, 0, none⟩ = false ∧ w.frozen? ⟨b, 1, none⟩ = false ∧ w.frozen? ⟨b, 2, none⟩ = false ∧ w.frozen? ⟨b, 3, none⟩ = false ∧ w.frozen? ⟨b, 4, none⟩ = false := by
  simp [World.cell?, World.frozen?, h]
def partN (k : K) (n : Nat) : Nat := 1 + ((k.keys.take n).map K.nodes).sum
theorem partN_zero (k : K) : partN k 0 = 1 := by simp [partN]
theorem partN_succ (k : K) {n : Nat} (h : n < k.keys.length) : partN k (n + 1) = partN k n + k.keys[n].nodes := by
  unfold partN
  rw [List.take_succ_eq_append_getElem h, List.map_append, List.sum_append]
  simp; omega
theorem partN_all (k : K) : partN k k.keys.length = k.nodes := by rw [K.nodes_eq]; unfold partN; rw [List.take_length]
theorem partN_le (k : K) {n : Nat} (h : n ≤ k.keys.length) : partN k n ≤ k.nodes := by
  rw [← partN_all]
  unfold partN
  have e : k.keys.take k.keys.length = k.keys.take n ++ (k.keys.drop n) := by rw [List.take_length, List.take_append_drop]
  rw [e, List.map_append, List.sum_append]
  omega
set_option maxHeartbeats 400000 in
theorem l12Nodes_any (k : K) : ∀ (v : Value) (S : Nat → Prop) (w : World), KeyAt w S k v → Ins S w → k.nodes ≤ 1000000000 →
    Calls Tryd.prog 15 #[v] w fun e w' => e = .returned (.int .i64 (k.nodes : Int)) ∧ Below w.heap.size w w' := by
  induction k using K.ind with
  | h k ih =>
    intro v S w h hN hk
    rw [KeyAt] at h
    obtain ⟨sv, a, L, cap, rfl, hs, hL, hcap, ⟨hmax, _⟩, hmail⟩ := h
    have HL := Lib.hid hL; have IH := Lib.hid ih
    obtain ⟨w1, hw1⟩ : ∃ w1, w1 = w.alloc (.cells #[.int .i64 k.kind, .int .i64 k.flag, .string k.text, sv, .slice a L cap] 31) := ⟨_, rfl⟩
    have hbel : Below w.heap.size w w1 := by rw [hw1]; exact (Below.refl _ _).alloc (Nat.le_refl _) _
    have hz : w1.heap[w.heap.size]? = some (.cells #[.int .i64 k.kind, .int .i64 k.flag, .string k.text, sv, .slice a L cap] 31 (0, 0)) := by rw [hw1]; exact heap_alloc_new w _
    have HW := Lib.hid hw1; have HZ := Lib.hid hz
    have hzl := lt_of_block hz
    clear hL ih hw1 hz hs
    go_enter Tryd.func15, Tryd.ntmps15
    go_wp2_with fail
    rw [← HW.out]
    go_loopw [3, 4] (fun s i wr => ∃ (n x : Nat), n ≤ L ∧ i = .int .i64 (n : Int) ∧ s = .int .i64 (x : Int) ∧ Hid (x = partN k n) ∧ Below w1.heap.size w1 wr) (fun _ i _ => L - (intOf i).toNat)
    case atStart => exact ⟨0, 1, by omega, rfl, rfl, (partN_zero k).symm, Below.refl _ _⟩
    case round =>
      obtain ⟨n, x, hn, rfl, rfl, HX, hq⟩ := hrel
      have hx : x ≤ 1000000000 := by have := HX.out; have := partN_le k (n := n) (by rw [HL.out]; exact hn); omega
      obtain ⟨_, _, _, _, e4, _⟩ := five_cells ((hq.block _ hzl).trans HZ.out)
      by_cases hlt : n < L
      · rcases hmail with h0 | ⟨g, off, rfl, hg, hcells⟩
        · omega
        have hlt' : n < k.keys.length := by rw [HL.out]; exact hlt
        obtain ⟨c0, c1, c2, c3, c4, d0, d1, d2, d3, d4, hc⟩ := hcells n hlt'
        have q0 : Below w.heap.size w wr := hbel.trans (hq.mono hbel.size)
        have kp : ∀ o c, w.cell? ⟨g, o, none⟩ = some c → wr.cell? ⟨g, o, none⟩ = some c := fun o c e => (q0.cell (p := ⟨g, o, none⟩) (hN.lt hg)).trans e
        replace d0 := kp _ _ d0
        replace d1 := kp _ _ d1
        replace d2 := kp _ _ d2
        replace d3 := kp _ _ d3
        replace d4 := kp _ _ d4
        have hc2 := hc.below hN q0
        have hps := partN_succ k hlt'
        have hpl := partN_le k (n := n + 1) (by omega)
        have hnp := (k.keys[n]).nodes_pos
        have HC := Lib.hid (IH.out _ (List.getElem_mem hlt') _ S wr hc2 (hN.below q0) (by omega))
        obtain ⟨y, hy⟩ : ∃ y, k.keys[n].nodes = y := ⟨_, rfl⟩
        rw [hy] at HC hps hnp
        have HX2 : Hid (x + y = partN k (n + 1)) := by show _ = _; rw [hps, HX.out]
        have hxy : x + y ≤ 1000000000 := by have := HX2.out; omega
        have hnI : (n : Int) < (L : Int) := by omega
        clear hcells hc hc2 kp hps hpl hy
        go_wp2_with fail
        refine HC.out.mono ?_
        rintro e w2 ⟨rfl, q2⟩
        have q3 := hq.trans (q2.mono hq.size)
        clear d0 d1 d2 d3 d4 q2 HC e4
        go_wp2_with fail
        go_roundw
        case rel => exact ⟨n + 1, x + y, by omega, by go_num, by go_num, HX2.out, q3⟩
        case measure => simp [intOf]; omega
      · have hnn : n = L := by omega
        have hr : x = k.nodes := by rw [HX.out, hnn, ← HL.out, partN_all]
        have HR := Lib.hid hr
        clear hnn hr hmail
        go_wp2_with fail
        go_ret
        exact ⟨ret_int (by have := HR.out; omega), hbel.trans (hq.mono hbel.size)⟩
end Go.Proofs.YtgcdopmidmelfaaDoor

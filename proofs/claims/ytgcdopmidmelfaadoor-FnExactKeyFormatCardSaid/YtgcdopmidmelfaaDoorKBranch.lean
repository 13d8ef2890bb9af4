/- WALKS: the program's nodes of a key with one or two keys. -/
import Derived.Test.YtgcdopmidmelfaaDoorKNode
import Derived.Deep.DeepCutAuto
namespace Go.Proofs.YtgcdopmidmelfaaDoor
open Go.RowKit
set_option linter.unusedVariables false

def BuildOk (k : K) : Prop := ∀ (v : Value) (S : Nat → Prop) (w : World) (rb : Nat) (room : Int), KeyAt w S k v → Ins S w → k.Fit → Names w → w.heap[rb]? = some (.cells #[.int .i64 room] 3 (0, 0)) → ¬ S rb → 0 ≤ room → room ≤ 1000 →
  Calls Tryd.prog 25 #[v, .pointer (some ⟨rb, 0, none⟩)] w (Built w S rb room k)
/-- How many nodes the first keys have. -/
def firstN (k : K) (n : Nat) : Int := (((k.keys.take n).map K.nodes).sum : Nat)
theorem firstN_zero (k : K) : firstN k 0 = 0 := by simp [firstN]
theorem firstN_succ (k : K) {n : Nat} (h : n < k.keys.length) : firstN k (n + 1) = firstN k n + (k.keys[n].nodes : Int) := by
  unfold firstN
  rw [List.take_succ_eq_append_getElem h, List.map_append, List.sum_append]; simp
theorem firstN_nonneg (k : K) (n : Nat) : 0 ≤ firstN k n := Int.natCast_nonneg _
/-- What lies where while the keys of a node are built. -/
structure BR (w : World) (S : Nat → Prop) (rb ab : Nat) (room : Int) (k : K) (kc : Array Value) (n : Nat) (x0 x1 : Value) (v : World) : Prop where
  key : v.heap[w.heap.size]? = some (.cells kc 31 (0, 0))
  arr : v.heap[ab]? = some (.cells #[x0, x1] 80 (0, 0))
  cell : v.heap[rb]? = some (.cells #[.int .i64 (room - firstN k n)] 3 (0, 0))
  gr : w.grownBy v (some rb)
  lt : rb < w.heap.size
  la : w.heap.size < ab
  one : ∀ h : 0 < k.keys.length, 1 ≤ n → okIn (k.keys[0]'h) room = true ∧ NodeAt v S (k.keys[0]'h) x0
  two : ∀ h : 1 < k.keys.length, 2 ≤ n → okIn (k.keys[1]'h) (room - ((k.keys[0]'(by omega)).nodes : Int)) = true ∧ NodeAt v S (k.keys[1]'h) x1
theorem okIn_nodes {k : K} {room : Int} (h : okIn k room = true) : (k.nodes : Int) ≤ room := by
  unfold okIn at h; simp at h; exact h.2
theorem arr_set {w : World} {b : Nat} {x y u : Value} {t : TypeId} (h : w.heap[b]? = some (.cells #[x, y] t (0, 0))) : (w.setCell ⟨b, 0, none⟩ u).heap[b]? = some (.cells #[u, y] t (0, 0)) := by
  have hlt := lt_of_block h
  have h' : w.heap[b] = .cells #[x, y] t (0, 0) := by simpa [Array.getElem?_eq_getElem hlt] using h
  show (w.heap.modify b _)[b]? = _
  rw [Array.getElem?_eq_getElem (by simpa using hlt), Array.getElem_modify_self, h']
  rfl
theorem grown_above {w a : World} {row : Option Nat} (h : w.grownBy a row) {p : Addr} (hp : w.heap.size ≤ p.block) (u : Value) : w.grownBy (a.setCell p u) row :=
  ⟨h.os, h.tape, h.output, by simpa [World.setCell] using h.size, fun k hk hr => (Below.heap_setCell _ _ _ _ (by omega)).trans (h.block k hk hr)⟩
/-- A node was stored. -/
theorem BR.store0 {w v v' : World} {S : Nat → Prop} {rb ab : Nat} {room : Int} {k : K} {kc : Array Value} {x0 x1 nd : Value} (h : BR w S rb ab room k kc 0 x0 x1 v) (hN : Ins S w) (hS : ¬ S rb) (hg : v.grownBy v' (some rb)) (hn : 0 < k.keys.length)
    (ho : okIn k.keys[0] (room - firstN k 0) = true) (hx : NodeAt v' S k.keys[0] nd) (hr : v'.heap[rb]? = some (.cells #[.int .i64 ((room - firstN k 0) - (k.keys[0].nodes : Int))] 3 (0, 0))) :
    BR w S rb ab room k kc 1 nd x1 (v'.setCell ⟨ab, 0, none⟩ nd) := by
  have h1 := lt_of_block h.key; have h2 := lt_of_block h.arr; have h3 := h.lt; have h4 := h.la
  have g := grown_trans h.gr hg
  refine ⟨(Below.heap_setCell _ _ _ _ (by show _ ≠ ab; omega)).trans ((hg.block _ h1 (by simp; omega)).trans h.key), arr_set ((hg.block _ h2 (by simp; omega)).trans h.arr), ?_, grown_above g (by show _ ≤ ab; omega) _, h3, h4, fun hh _ => ⟨?_, ?_⟩, fun _ hh => by omega⟩
  · refine (Below.heap_setCell _ _ _ _ (by show _ ≠ ab; omega)).trans ?_
    rw [hr, firstN_succ k hn, Int.sub_sub]
  · rw [firstN_zero, Int.sub_zero] at ho; exact ho
  · exact NodeAt.kept (fun _ h => h) (fun j hj => Below.heap_setCell _ _ _ _ (by show j ≠ ab; have := hN.lt hj; omega)) _ _ hx
theorem BR.store1 {w v v' : World} {S : Nat → Prop} {rb ab : Nat} {room : Int} {k : K} {kc : Array Value} {x0 x1 nd : Value} (h : BR w S rb ab room k kc 1 x0 x1 v) (hN : Ins S w) (hS : ¬ S rb) (hg : v.grownBy v' (some rb)) (hn : 1 < k.keys.length)
    (ho : okIn k.keys[1] (room - firstN k 1) = true) (hx : NodeAt v' S k.keys[1] nd) (hr : v'.heap[rb]? = some (.cells #[.int .i64 ((room - firstN k 1) - (k.keys[1].nodes : Int))] 3 (0, 0))) :
    BR w S rb ab room k kc 2 x0 nd (v'.setCell ⟨ab, 1, none⟩ nd) := by
  have h1 := lt_of_block h.key; have h2 := lt_of_block h.arr; have h3 := h.lt; have h4 := h.la
  have g := grown_trans h.gr hg
  have keep : ∀ j, S j → (v'.setCell ⟨ab, 1, none⟩ nd).heap[j]? = v'.heap[j]? := fun j hj => Below.heap_setCell _ _ _ _ (by show j ≠ ab; have := hN.lt hj; omega)
  refine ⟨(Below.heap_setCell _ _ _ _ (by show _ ≠ ab; omega)).trans ((hg.block _ h1 (by simp; omega)).trans h.key), cur_set ((hg.block _ h2 (by simp; omega)).trans h.arr), ?_, grown_above g (by show _ ≤ ab; omega) _, h3, h4, fun hh _ => ?_, fun hh _ => ⟨?_, ?_⟩⟩
  · refine (Below.heap_setCell _ _ _ _ (by show _ ≠ ab; omega)).trans ?_
    rw [hr, firstN_succ k hn, Int.sub_sub]
  · obtain ⟨o1, o2⟩ := h.one hh (Nat.le_refl _)
    exact ⟨o1, NodeAt.kept (fun _ h => h) keep _ _ (o2.grown (hN.le h.gr.size) hg hS)⟩
  · rw [firstN_succ k (by omega), firstN_zero, Int.zero_add] at ho; exact ho
  · exact NodeAt.kept (fun _ h => h) keep _ _ hx
theorem BR.out {w v : World} {S : Nat → Prop} {rb ab : Nat} {room : Int} {k : K} {kc : Array Value} {n : Nat} {x0 x1 : Value} (h : BR w S rb ab room k kc n x0 x1 v) :
    (v.cell? ⟨ab, 0, none⟩ = some x0 ∧ v.cell? ⟨ab, 1, none⟩ = some x1 ∧ v.frozen? ⟨ab, 1, none⟩ = false) ∧ v.frozen? ⟨ab, 0, none⟩ = false := by
  refine ⟨cur_cells h.arr, ?_⟩
  simp [World.frozen?, h.arr]
theorem two_of_length {α : Type} : ∀ {l : List α}, l.length = 2 → ∃ c d, l = [c, d]
  | [c, d], _ => ⟨c, d, rfl⟩
set_option maxHeartbeats 2000000 in
theorem keyBranch_of (k : K) (ih : ∀ c ∈ k.keys, BuildOk c) (v : Value) (S : Nat → Prop) (w : World) (rb : Nat) (room : Int) (h : KeyAt w S k v) (hN : Ins S w) (hF : k.Fit) (hNa : Names w)
    (hroom : w.heap[rb]? = some (.cells #[.int .i64 room] 3 (0, 0))) (hrb : ¬ S rb) (h0 : 0 ≤ room) (h1 : room ≤ 1000) (hk : 5 ≤ k.kind) :
    Calls Tryd.prog 34 #[v, .pointer (some ⟨rb, 0, none⟩)] w (Built w S rb (room + 1) k) := by
  obtain ⟨sa, sn, sc, a, L, cap, rfl, hs, hsn, hL, hcap, hmax, hmax2⟩ := h.open
  rw [KeyAt] at h
  obtain ⟨sv', a', n', cap', hv', _, hL', _, _, hmail⟩ := h
  simp only [Value.agg.injEq, Array.mk.injEq, List.cons.injEq, Value.slice.injEq, true_and, and_true] at hv'
  obtain ⟨rfl, rfl, rfl, rfl⟩ := hv'
  clear hL'
  have hlt := lt_of_block hroom
  obtain ⟨kd, hkd⟩ : ∃ x, k.kind = x := ⟨_, rfl⟩
  have HKD := Lib.hid hkd; have HL := Lib.hid hL; have IH := Lib.hid ih; have HF := Lib.hid hF; have HNa := Lib.hid hNa; have HR0 := Lib.hid hroom
  have hbad : okIn k (room + 1) = false → ∀ w', w.grownBy w' (some rb) → Built w S rb (room + 1) k (.returned (.tuple #[.nilIface, .bool false])) w' := fun hr w' hg => ⟨.nilIface, by rw [hr], hg, fun e => by rw [hr] at e; cases e⟩
  have HBAD := Lib.hid hbad
  clear hbad
  by_cases hbd : 7 < kd ∨ (kd = 5 ∧ L ≠ 1) ∨ (kd ≠ 5 ∧ L ≠ 2)
  · have hr : okIn k (room + 1) = false := okIn_bad hk (by rw [hkd, hL]; omega)
    have HX := Lib.hid (HBAD.out hr)
    rw [hkd] at hk ⊢
    clear HBAD hr hs hsn hL hkd ih hF hNa hroom hmail
    rcases hbd with hb | ⟨rfl, hb⟩ | ⟨hb1, hb⟩
    · have q1 : (kd == 5) = false := beq_eq_false_iff_ne.2 (by omega)
      go_enter Tryd.func34, Tryd.ntmps34
      go_wp2_with fail
      go_ret2
      exact HX.out _ (World.grownBy_alloc _ _ _)
    · have q1 : ((L : Int) == 1) = false := beq_eq_false_iff_ne.2 (by omega)
      go_enter Tryd.func34, Tryd.ntmps34
      go_wp2_with fail
      go_ret2
      exact HX.out _ (World.grownBy_alloc _ _ _)
    · by_cases h7 : 7 < kd
      · have q1 : (kd == 5) = false := beq_eq_false_iff_ne.2 (by omega)
        go_enter Tryd.func34, Tryd.ntmps34
        go_wp2_with fail
        go_ret2
        exact HX.out _ (World.grownBy_alloc _ _ _)
      · have q1 : (kd == 5) = false := beq_eq_false_iff_ne.2 (by omega)
        have q2 : ((L : Int) == 2) = false := beq_eq_false_iff_ne.2 (by omega)
        have h7' : kd ≤ 7 := by omega
        go_enter Tryd.func34, Tryd.ntmps34
        go_wp2_with fail
        go_ret2
        exact HX.out _ (World.grownBy_alloc _ _ _)
  rcases hp : plainB k.flag k.text sn with _ | _
  · have hr : okIn k (room + 1) = false := okIn_bad hk (by
      unfold plainB at hp
      by_cases e1 : k.flag = 0
      · by_cases e2 : k.text.size = 0
        · simp [e1, e2] at hp; omega
        · omega
      · omega)
    have HX := Lib.hid (HBAD.out hr)
    rw [hkd] at hk ⊢
    clear HBAD hr hs hsn hL hkd ih hF hNa hroom hmail
    by_cases h5 : kd = 5
    · subst h5
      obtain rfl : L = 1 := by omega
      clear hbd
      go_enter Tryd.func34, Tryd.ntmps34
      go_wp2_with fail
      refine (keyPlain_any _ _ _ _ _ _ _ _).mono ?_
      rintro e w2 ⟨rfl, q⟩
      rw [hp]
      go_wp2_with fail
      go_ret2
      exact HX.out _ (grown_trans (World.grownBy_alloc _ _ _) (grown_of_below q))
    · obtain rfl : L = 2 := by omega
      have q1 : (kd == 5) = false := beq_eq_false_iff_ne.2 h5
      have h7' : kd ≤ 7 := by omega
      clear hbd h5
      go_enter Tryd.func34, Tryd.ntmps34
      go_wp2_with fail
      refine (keyPlain_any _ _ _ _ _ _ _ _).mono ?_
      rintro e w2 ⟨rfl, q⟩
      rw [hp]
      go_wp2_with fail
      go_ret2
      exact HX.out _ (grown_trans (World.grownBy_alloc _ _ _) (grown_of_below q))
  have hplain : k.flag = 0 ∧ k.text.size = 0 ∧ k.set.length = 0 := by
    have hq := hp
    unfold plainB at hq
    simp only [Bool.and_eq_true, beq_iff_eq, decide_eq_true_eq] at hq
    exact ⟨hq.1.1, hq.1.2, by rw [hsn]; exact hq.2⟩
  by_cases h5 : kd = 5
  · subst h5
    obtain rfl : L = 1 := by omega
    obtain ⟨ky, hky⟩ : ∃ c, k.keys = [c] := List.length_eq_one_iff.1 hL
    have hone : ∀ h : 0 < k.keys.length, okIn k (room + 1) = okIn (k.keys[0]'h) room := fun h => by
      rw [okIn_one hkd hky hplain, show room + 1 - 1 = room from by omega]
      simp [hky]
    have HONE := Lib.hid hone
    have hnod : ∀ h : 0 < k.keys.length, (k.nodes : Int) = 1 + ((k.keys[0]'h).nodes : Int) := fun h => by rw [K.nodes_eq]; simp [hky]
    have HNOD := Lib.hid hnod
    rw [hkd] at hk ⊢
    obtain ⟨w1, hw1⟩ : ∃ w1, w1 = w.alloc (.cells #[.int .i64 5, .int .i64 k.flag, .string k.text, .slice sa sn sc, .slice a 1 cap] 31) := ⟨_, rfl⟩
    have hbel : w.grownBy w1 (some rb) := by rw [hw1]; exact World.grownBy_alloc _ _ _
    have hz : w1.heap[w.heap.size]? = some (.cells #[.int .i64 5, .int .i64 k.flag, .string k.text, .slice sa sn sc, .slice a 1 cap] 31 (0, 0)) := by rw [hw1]; exact heap_alloc_new w _
    have hzl := lt_of_block hz
    obtain ⟨e0, e1, e2, e3, e4, _⟩ := five_cells hz
    have HW := Lib.hid hw1; have HZ := Lib.hid hz
    clear hw1 hz hone hnod hky hs hsn hL hkd ih hF hNa hroom hplain hbd
    go_enter Tryd.func34, Tryd.ntmps34
    go_wp2_with fail
    rw [← HW.out]
    refine (keyPlain_any _ _ _ _ _ _ _ _).mono ?_
    rintro e w2 ⟨rfl, q⟩
    rw [hp]
    have z2 := (q.block _ hzl).trans HZ.out
    have l2 := lt_of_block z2
    have hBR : BR w S rb w2.heap.size room k #[.int .i64 5, .int .i64 k.flag, .string k.text, .slice sa sn sc, .slice a 1 cap] 0 .nilIface .nilIface (w2.alloc (.cells #[.nilIface, .nilIface] 80)) := by
      have g2 := grown_trans hbel (grown_of_below q)
      refine ⟨(Below.heap_alloc _ _ _ l2).trans z2, heap_alloc_new w2 _, ?_, grown_trans g2 (World.grownBy_alloc _ _ _), hlt, l2, fun _ h => by omega, fun _ h => by omega⟩
      rw [firstN_zero, Int.sub_zero]
      refine (Below.heap_alloc _ _ _ (by omega)).trans ((q.block _ (by have := hbel.size; omega)).trans ?_)
      rw [HW.out]
      exact (Below.heap_alloc _ _ _ hlt).trans HR0.out
    have HB := Lib.hid hBR
    clear hBR z2 q e0 e1 e2 e3 e4 HZ hzl hbel HW
    go_wp2_with fail
    go_loopw [31] (fun i wr => ∃ (n : Nat) (x0 x1 : Value), n ≤ 1 ∧ i = .int .i64 (n : Int) ∧ Hid (BR w S rb w2.heap.size room k #[.int .i64 5, .int .i64 k.flag, .string k.text, .slice sa sn sc, .slice a 1 cap] n x0 x1 wr)) (fun i _ => 1 - (intOf i).toNat)
    case atStart => exact ⟨0, _, _, by omega, rfl, HB.out⟩
    case round =>
      clear HB
      obtain ⟨n, x0, x1, hn, rfl, HB⟩ := hrel
      obtain ⟨e0, e1, e2, e3, e4, _⟩ := five_cells HB.out.key
      obtain ⟨⟨m0, m1, mf1⟩, mf0⟩ := HB.out.out
      by_cases hn0 : n = 0
      · subst hn0
        rcases hmail with hz0 | ⟨g, off, rfl, hg, hcells⟩
        · omega
        have hlt' : 0 < k.keys.length := by rw [HL.out]; omega
        obtain ⟨c0, c1, c2, c3, c4, d0, d1, d2, d3, d4, hc⟩ := hcells 0 hlt'
        have hgr := HB.out.gr
        have hne : g ≠ rb := fun e => by subst e; exact hrb hg
        have kp : ∀ o c, w.cell? ⟨g, o, none⟩ = some c → wr.cell? ⟨g, o, none⟩ = some c := fun o c e => (World.cell?_of_block (a := ⟨g, o, none⟩) (hgr.block g (hN.lt hg) (by simp; exact hne))).trans e
        replace d0 := kp _ _ d0
        replace d1 := kp _ _ d1
        replace d2 := kp _ _ d2
        replace d3 := kp _ _ d3
        replace d4 := kp _ _ d4
        try simp only [Nat.zero_mul, Nat.add_zero] at d0 d1 d2 d3 d4
        have hc2 := hc.grown hN hgr hrb
        have HC := Lib.hid (IH.out _ (List.getElem_mem hlt') _ S wr rb _ hc2 (hN.le hgr.size) (HF.out.key (List.getElem_mem hlt')) (HNa.out.grown hgr HR0.out) HB.out.cell hrb (by first | assumption | (rw [firstN_zero]; omega)) (by have := firstN_nonneg k 0; omega))
        have HKP := Lib.hid kp
        clear hcells hc hc2 kp hgr hne
        go_wp2_with fail
        refine HC.out.mono ?_
        rintro e w4 ⟨nd, rfl, hg4, hok⟩
        clear d0 d1 d2 d3 d4 HC HKP
        have l4 := hg4.size
        have k4 := (hg4.block _ (lt_of_block HB.out.key) (by simp; omega)).trans HB.out.key
        have a4 := (hg4.block _ (lt_of_block HB.out.arr) (by have := HB.out.la; simp; omega)).trans HB.out.arr
        have g4 := grown_trans HB.out.gr hg4
        clear e0 e1 e2 e3 e4 m0 m1 mf1 mf0
        rcases hb : okIn k.keys[0] (room - firstN k 0) with _ | _
        · have hr : okIn k (room + 1) = false := by rw [HONE.out hlt']; rw [firstN_zero, Int.sub_zero] at hb; exact hb
          have HX := Lib.hid (HBAD.out hr _ g4)
          clear hok hg4 k4 a4 hr hb
          go_wp2_with fail
          go_ret2
          exact HX.out
        · obtain ⟨hnd, hrm⟩ := hok hb
          obtain ⟨t0, y0, rfl⟩ := hnd.iface
          obtain ⟨⟨m0, m1, mf1⟩, mf0⟩ := (show (w4.cell? ⟨w2.heap.size, 0, none⟩ = some x0 ∧ w4.cell? ⟨w2.heap.size, 1, none⟩ = some x1 ∧ w4.frozen? ⟨w2.heap.size, 1, none⟩ = false) ∧ w4.frozen? ⟨w2.heap.size, 0, none⟩ = false from ⟨cur_cells a4, by simp [World.frozen?, a4]⟩)
          have hB1 := HB.out.store0 hN hrb hg4 hlt' hb hnd hrm
          have HB1 := Lib.hid hB1
          clear hok hg4 k4 a4 g4 hb hnd hrm hB1
          go_wp2_with fail
          go_roundw
          case rel => exact ⟨1, _, x1, by omega, by go_num, HB1.out⟩
          case measure => simp [intOf]
      · obtain rfl : n = 1 := by omega
        have hlt' : 0 < k.keys.length := by rw [HL.out]; omega
        obtain ⟨o1, o2⟩ := HB.out.one hlt' (Nat.le_refl _)
        have hr : okIn k (room + 1) = true := by rw [HONE.out hlt']; exact o1
        have fin : Built w S rb (room + 1) k (.returned (.tuple #[.iface 67 (.agg #[x0]), .bool true])) wr := by
          refine ⟨_, by rw [hr], HB.out.gr, fun _ => ⟨NodeAt.not HKD.out hlt' o2, ?_⟩⟩
          have hc := HB.out.cell
          rw [firstN_succ k hlt', firstN_zero] at hc
          rw [hc, HNOD.out hlt']
          simp; omega
        have HX := Lib.hid fin
        obtain ⟨t0, y0, rfl⟩ := o2.iface
        clear hr fin o1 o2
        go_wp2_with fail
        go_ret2
        exact HX.out
  · obtain rfl : L = 2 := by omega
    have q1 : (kd == 5) = false := beq_eq_false_iff_ne.2 h5
    have h7' : kd ≤ 7 := by omega
    have hk6 : 6 ≤ kd := by omega
    obtain ⟨ky, kz, hky⟩ : ∃ c d, k.keys = [c, d] := two_of_length hL
    have hone : ∀ h : 1 < k.keys.length, okIn k (room + 1) = (okIn (k.keys[0]'(Nat.lt_trans Nat.zero_lt_one h)) room && okIn (k.keys[1]'h) (room - ((k.keys[0]'(Nat.lt_trans Nat.zero_lt_one h)).nodes : Int))) := fun h => by
      rw [okIn_two (by omega) hky hplain, show room + 1 - 1 = room from by omega]
      simp [hky]
    have HONE := Lib.hid hone
    have hnod : ∀ h : 1 < k.keys.length, (k.nodes : Int) = 1 + (((k.keys[0]'(Nat.lt_trans Nat.zero_lt_one h)).nodes : Int) + ((k.keys[1]'h).nodes : Int)) := fun h => by rw [K.nodes_eq]; simp [hky]
    have HNOD := Lib.hid hnod
    rw [hkd] at hk ⊢
    obtain ⟨w1, hw1⟩ : ∃ w1, w1 = w.alloc (.cells #[.int .i64 kd, .int .i64 k.flag, .string k.text, .slice sa sn sc, .slice a 2 cap] 31) := ⟨_, rfl⟩
    have hbel : w.grownBy w1 (some rb) := by rw [hw1]; exact World.grownBy_alloc _ _ _
    have hz : w1.heap[w.heap.size]? = some (.cells #[.int .i64 kd, .int .i64 k.flag, .string k.text, .slice sa sn sc, .slice a 2 cap] 31 (0, 0)) := by rw [hw1]; exact heap_alloc_new w _
    have hzl := lt_of_block hz
    obtain ⟨e0, e1, e2, e3, e4, _⟩ := five_cells hz
    have HW := Lib.hid hw1; have HZ := Lib.hid hz
    clear hw1 hz hone hnod hky hs hsn hL hkd ih hF hNa hroom hplain hbd h5
    go_enter Tryd.func34, Tryd.ntmps34
    go_wp2_with fail
    rw [← HW.out]
    refine (keyPlain_any _ _ _ _ _ _ _ _).mono ?_
    rintro e w2 ⟨rfl, q⟩
    rw [hp]
    have z2 := (q.block _ hzl).trans HZ.out
    have l2 := lt_of_block z2
    have hBR : BR w S rb w2.heap.size room k #[.int .i64 kd, .int .i64 k.flag, .string k.text, .slice sa sn sc, .slice a 2 cap] 0 .nilIface .nilIface (w2.alloc (.cells #[.nilIface, .nilIface] 80)) := by
      have g2 := grown_trans hbel (grown_of_below q)
      refine ⟨(Below.heap_alloc _ _ _ l2).trans z2, heap_alloc_new w2 _, ?_, grown_trans g2 (World.grownBy_alloc _ _ _), hlt, l2, fun _ h => by omega, fun _ h => by omega⟩
      rw [firstN_zero, Int.sub_zero]
      refine (Below.heap_alloc _ _ _ (by omega)).trans ((q.block _ (by have := hbel.size; omega)).trans ?_)
      rw [HW.out]
      exact (Below.heap_alloc _ _ _ hlt).trans HR0.out
    have HB := Lib.hid hBR
    clear hBR z2 q e0 e1 e2 e3 e4 HZ hzl hbel HW
    go_wp2_with fail
    go_loopw [31] (fun i wr => ∃ (n : Nat) (x0 x1 : Value), n ≤ 2 ∧ i = .int .i64 (n : Int) ∧ Hid (BR w S rb w2.heap.size room k #[.int .i64 kd, .int .i64 k.flag, .string k.text, .slice sa sn sc, .slice a 2 cap] n x0 x1 wr)) (fun i _ => 2 - (intOf i).toNat)
    case atStart => exact ⟨0, _, _, by omega, rfl, HB.out⟩
    case round =>
      clear HB
      obtain ⟨n, x0, x1, hn, rfl, HB⟩ := hrel
      obtain ⟨e0, e1, e2, e3, e4, _⟩ := five_cells HB.out.key
      obtain ⟨⟨m0, m1, mf1⟩, mf0⟩ := HB.out.out
      by_cases hn0 : n = 0
      · subst hn0
        rcases hmail with hz0 | ⟨g, off, rfl, hg, hcells⟩
        · omega
        have hlt' : 0 < k.keys.length := by rw [HL.out]; omega
        obtain ⟨c0, c1, c2, c3, c4, d0, d1, d2, d3, d4, hc⟩ := hcells 0 hlt'
        have hgr := HB.out.gr
        have hne : g ≠ rb := fun e => by subst e; exact hrb hg
        have kp : ∀ o c, w.cell? ⟨g, o, none⟩ = some c → wr.cell? ⟨g, o, none⟩ = some c := fun o c e => (World.cell?_of_block (a := ⟨g, o, none⟩) (hgr.block g (hN.lt hg) (by simp; exact hne))).trans e
        replace d0 := kp _ _ d0
        replace d1 := kp _ _ d1
        replace d2 := kp _ _ d2
        replace d3 := kp _ _ d3
        replace d4 := kp _ _ d4
        try simp only [Nat.zero_mul, Nat.add_zero] at d0 d1 d2 d3 d4
        have hc2 := hc.grown hN hgr hrb
        have HC := Lib.hid (IH.out _ (List.getElem_mem hlt') _ S wr rb _ hc2 (hN.le hgr.size) (HF.out.key (List.getElem_mem hlt')) (HNa.out.grown hgr HR0.out) HB.out.cell hrb (by first | assumption | (rw [firstN_zero]; omega)) (by have := firstN_nonneg k 0; omega))
        have HKP := Lib.hid kp
        clear hcells hc hc2 kp hgr hne
        go_wp2_with fail
        refine HC.out.mono ?_
        rintro e w4 ⟨nd, rfl, hg4, hok⟩
        clear d0 d1 d2 d3 d4 HC HKP
        have l4 := hg4.size
        have k4 := (hg4.block _ (lt_of_block HB.out.key) (by simp; omega)).trans HB.out.key
        have a4 := (hg4.block _ (lt_of_block HB.out.arr) (by have := HB.out.la; simp; omega)).trans HB.out.arr
        have g4 := grown_trans HB.out.gr hg4
        clear e0 e1 e2 e3 e4 m0 m1 mf1 mf0
        rcases hb : okIn k.keys[0] (room - firstN k 0) with _ | _
        · have hr : okIn k (room + 1) = false := by rw [HONE.out (by rw [HL.out]; omega)]; rw [firstN_zero, Int.sub_zero] at hb; rw [hb]; rfl
          have HX := Lib.hid (HBAD.out hr _ g4)
          clear hok hg4 k4 a4 hr hb
          go_wp2_with fail
          go_ret2
          exact HX.out
        · obtain ⟨hnd, hrm⟩ := hok hb
          obtain ⟨t0, y0, rfl⟩ := hnd.iface
          obtain ⟨⟨m0, m1, mf1⟩, mf0⟩ := (show (w4.cell? ⟨w2.heap.size, 0, none⟩ = some x0 ∧ w4.cell? ⟨w2.heap.size, 1, none⟩ = some x1 ∧ w4.frozen? ⟨w2.heap.size, 1, none⟩ = false) ∧ w4.frozen? ⟨w2.heap.size, 0, none⟩ = false from ⟨cur_cells a4, by simp [World.frozen?, a4]⟩)
          have hB1 := HB.out.store0 hN hrb hg4 hlt' hb hnd hrm
          have HB1 := Lib.hid hB1
          clear hok hg4 k4 a4 g4 hb hnd hrm hB1
          go_wp2_with fail
          go_roundw
          case rel => exact ⟨1, _, x1, by omega, by go_num, HB1.out⟩
          case measure => simp [intOf]
      · by_cases hn1 : n = 1
        · subst hn1
          have hp1 : (1 : Nat) ≤ 1 := Nat.le_refl _
          have hz1 : 0 ≤ room - firstN k 1 := by
            have hl0 : 0 < k.keys.length := by rw [HL.out]; omega
            have := okIn_nodes (HB.out.one hl0 hp1).1
            rw [firstN_succ k hl0, firstN_zero]; omega
          rcases hmail with hz0 | ⟨g, off, rfl, hg, hcells⟩
          · omega
          have hlt' : 1 < k.keys.length := by rw [HL.out]; omega
          obtain ⟨c0, c1, c2, c3, c4, d0, d1, d2, d3, d4, hc⟩ := hcells 1 hlt'
          have hgr := HB.out.gr
          have hne : g ≠ rb := fun e => by subst e; exact hrb hg
          have kp : ∀ o c, w.cell? ⟨g, o, none⟩ = some c → wr.cell? ⟨g, o, none⟩ = some c := fun o c e => (World.cell?_of_block (a := ⟨g, o, none⟩) (hgr.block g (hN.lt hg) (by simp; exact hne))).trans e
          replace d0 := kp _ _ d0
          replace d1 := kp _ _ d1
          replace d2 := kp _ _ d2
          replace d3 := kp _ _ d3
          replace d4 := kp _ _ d4
          try simp only [Nat.zero_mul, Nat.add_zero] at d0 d1 d2 d3 d4
          have hc2 := hc.grown hN hgr hrb
          have HC := Lib.hid (IH.out _ (List.getElem_mem hlt') _ S wr rb _ hc2 (hN.le hgr.size) (HF.out.key (List.getElem_mem hlt')) (HNa.out.grown hgr HR0.out) HB.out.cell hrb (by first | assumption | (rw [firstN_zero]; omega)) (by have := firstN_nonneg k 1; omega))
          have HKP := Lib.hid kp
          clear hcells hc hc2 kp hgr hne
          go_wp2_with fail
          refine HC.out.mono ?_
          rintro e w4 ⟨nd, rfl, hg4, hok⟩
          clear d0 d1 d2 d3 d4 HC HKP
          have l4 := hg4.size
          have k4 := (hg4.block _ (lt_of_block HB.out.key) (by simp; omega)).trans HB.out.key
          have a4 := (hg4.block _ (lt_of_block HB.out.arr) (by have := HB.out.la; simp; omega)).trans HB.out.arr
          have g4 := grown_trans HB.out.gr hg4
          have hl0 : 0 < k.keys.length := by omega
          obtain ⟨o1, o2⟩ := HB.out.one hl0 hp1
          obtain ⟨t0, y0, rfl⟩ := o2.iface
          clear e0 e1 e2 e3 e4 m0 m1 mf1 mf0 o1 o2
          rcases hb : okIn k.keys[1] (room - firstN k 1) with _ | _
          · have hr : okIn k (room + 1) = false := by rw [HONE.out (by rw [HL.out]; omega)]; rw [firstN_succ k hl0, firstN_zero, Int.zero_add] at hb; rw [hb, Bool.and_false]
            have HX := Lib.hid (HBAD.out hr _ g4)
            clear hok hg4 k4 a4 hr hb
            go_wp2_with fail
            go_ret2
            exact HX.out
          · obtain ⟨hnd, hrm⟩ := hok hb
            obtain ⟨t1, y1, rfl⟩ := hnd.iface
            obtain ⟨⟨m0, m1, mf1⟩, mf0⟩ := (show (w4.cell? ⟨w2.heap.size, 0, none⟩ = some (.iface t0 y0) ∧ w4.cell? ⟨w2.heap.size, 1, none⟩ = some x1 ∧ w4.frozen? ⟨w2.heap.size, 1, none⟩ = false) ∧ w4.frozen? ⟨w2.heap.size, 0, none⟩ = false from ⟨cur_cells a4, by simp [World.frozen?, a4]⟩)
            have hB1 := HB.out.store1 hN hrb hg4 hlt' hb hnd hrm
            have HB1 := Lib.hid hB1
            clear hok hg4 k4 a4 g4 hb hnd hrm hB1
            go_wp2_with fail
            go_roundw
            case rel => exact ⟨2, _, _, by omega, by go_num, HB1.out⟩
            case measure => simp [intOf]
        · obtain rfl : n = 2 := by omega
          have hlt' : 1 < k.keys.length := by rw [HL.out]; omega
          have hl0 : 0 < k.keys.length := by omega
          obtain ⟨o1, o2⟩ := HB.out.one hl0 (by omega)
          obtain ⟨o3, o4⟩ := HB.out.two hlt' (by omega)
          have hr : okIn k (room + 1) = true := by rw [HONE.out hlt', o1, o3]; rfl
          have fin : Built w S rb (room + 1) k (.returned (.tuple #[.iface 69 (.agg #[.bool (kd == 6), x0, x1]), .bool true])) wr := by
            refine ⟨_, by rw [hr], HB.out.gr, fun _ => ⟨NodeAt.pair (by rw [HKD.out]; exact hk6) (by rw [HKD.out]) hlt' o2 o4, ?_⟩⟩
            have hc := HB.out.cell
            rw [firstN_succ k hlt', firstN_succ k hl0, firstN_zero] at hc
            rw [hc, HNOD.out hlt']
            simp; omega
          have HX := Lib.hid fin
          obtain ⟨t0, y0, rfl⟩ := o2.iface
          obtain ⟨t1, y1, rfl⟩ := o4.iface
          clear hr fin o1 o2 o3 o4
          go_wp2_with fail
          go_ret2
          exact HX.out
end Go.Proofs.YtgcdopmidmelfaaDoor

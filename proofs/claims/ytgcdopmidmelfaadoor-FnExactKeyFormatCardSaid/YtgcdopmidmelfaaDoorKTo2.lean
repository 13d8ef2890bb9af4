/- WALKS: a key that comes in is copied: its keys; the whole. -/
import Derived.Test.YtgcdopmidmelfaaDoorKTo
namespace Go.Proofs.YtgcdopmidmelfaaDoor
open Go.RowKit
set_option linter.unusedVariables false

/-- What a copy of a key is. -/
def Copied (w : World) (k : K) (e : Ending) (w' : World) : Prop := ∃ v', e = .returned v' ∧ KeyAt w' (fun j => w.heap.size ≤ j ∧ j < w'.heap.size) k v' ∧ Below w.heap.size w w'
theorem keyAt_mk {W4 W' : World} {B N1 N3 n : Nat} {cur kc : Array Value} {tS tK : TypeId} (k : K) (hkept : ∀ j, N1 ≤ j → W'.heap[j]? = W4.heap[j]?) (hsz : W'.heap.size = W4.heap.size) (hB : B ≤ N1) (h13 : N1 < N3)
    (hr : RowAt W4 N1 tS cur) (hc : ∀ i s, i < k.set.length → k.set[i]? = some s → cur[i * 2]? = some (.int .i64 s.1) ∧ cur[i * 2 + 1]? = some (.int .i64 s.2)) (hset : k.set.length ≤ 1048576)
    (hrk : RowAt W4 N3 tK kc) (hck : ∀ i (h : i < k.keys.length), i < n → ∃ c0 c1 c2 c3 c4, kc[i * 5]? = some c0 ∧ kc[i * 5 + 1]? = some c1 ∧ kc[i * 5 + 2]? = some c2 ∧ kc[i * 5 + 3]? = some c3 ∧ kc[i * 5 + 4]? = some c4 ∧
      KeyAt W4 (fun j => N3 < j ∧ j < W4.heap.size) k.keys[i] (.agg #[c0, c1, c2, c3, c4])) (hn : k.keys.length = n) (hn' : n ≤ 1048576) :
    KeyAt W' (fun j => B ≤ j ∧ j < W'.heap.size) k (.agg #[.int .i64 k.kind, .int .i64 k.flag, .string k.text, .slice (some ⟨N1, 0, none⟩) k.set.length k.set.length, .slice (some ⟨N3, 0, none⟩) n n]) := by
  have l3 := hrk.lt
  have hr' : RowAt W' N1 tS cur := (hkept _ (Nat.le_refl _)).trans hr
  have hrk' : RowAt W' N3 tK kc := (hkept _ (by omega)).trans hrk
  rw [KeyAt]
  refine ⟨_, _, n, n, rfl, ⟨_, _, _, rfl, rfl, Nat.le_refl _, ⟨by omega, fun e => by cases e⟩, .inr ⟨N1, 0, rfl, ⟨hB, by omega⟩, fun i s hi => ?_⟩⟩, hn, Nat.le_refl _, ⟨by omega, fun e => by cases e⟩, .inr ⟨N3, 0, rfl, ⟨by omega, by omega⟩, fun i hi => ?_⟩⟩
  · have := hc i s (List.getElem?_eq_some_iff.1 hi).1 hi
    simp only [Nat.zero_add]
    exact ⟨hr'.cell this.1, hr'.cell this.2⟩
  · obtain ⟨c0, c1, c2, c3, c4, k0, k1, k2, k3, k4, hh⟩ := hck i hi (by omega)
    simp only [Nat.zero_add]
    exact ⟨c0, c1, c2, c3, c4, hrk'.cell k0, hrk'.cell k1, hrk'.cell k2, hrk'.cell k3, hrk'.cell k4, KeyAt.kept (fun j hj => ⟨by omega, by omega⟩) (fun j hj => hkept j (by omega)) _ _ hh⟩
set_option maxHeartbeats 1000000 in
theorem toKeyS_any (k : K) (ih : ∀ c ∈ k.keys, ∀ v w, KeyIn w c v → Calls Tryd.prog 7 #[v] w (Copied w c))
    (a : Option Addr) (L cap : Nat) (w : World) (hL : k.keys.length = L) (hl : L ≤ 1048576) (hc : L ≤ cap) (hm1 : cap ≤ maxLen)
    (hkeys : L = 0 ∨ ∃ b off, a = some ⟨b, off, none⟩ ∧ b < w.heap.size ∧ ∀ i (h : i < k.keys.length), ∃ c0 c1 c2 c3 c4, w.cell? ⟨b, off + i * 5, none⟩ = some c0 ∧ w.cell? ⟨b, off + i * 5 + 1, none⟩ = some c1 ∧ w.cell? ⟨b, off + i * 5 + 2, none⟩ = some c2 ∧ w.cell? ⟨b, off + i * 5 + 3, none⟩ = some c3 ∧ w.cell? ⟨b, off + i * 5 + 4, none⟩ = some c4 ∧
      KeyIn w k.keys[i] (.agg #[c0, c1, c2, c3, c4])) :
    Calls Tryd.prog 17 #[.slice a L cap] w fun e w' => e = .returned (.slice (some ⟨w.heap.size, 0, none⟩) L L) ∧ KyRow w.heap.size L 31 k.keys L w' ∧ Below w.heap.size w w' := by
  unfold maxLen at hm1
  have HL := Lib.hid hL
  have HIH := Lib.hid ih
  clear hL ih
  obtain ⟨i0, hi, hz0, hz1, hz2⟩ := info_parts Tryd.infoKey
  have hmk := run_make_rowN (P := Tryd.prog) 29 31 i0 (.agg #[.int .i64 0, .int .i64 0, .string ⟨#[]⟩, .slice none 0 0, .slice none 0 0]) Tryd.underlying29 hi hz0 .i64 .i64 L L (Nat.le_refl _) (by rw [hz2]; omega) (by omega) w
  rw [hz1] at hmk
  obtain ⟨w1, hw1⟩ : ∃ w1, w1 = w.alloc (.cells (madeCells #[.int .i64 0, .int .i64 0, .string ⟨#[]⟩, .slice none 0 0, .slice none 0 0] (L * 5)) 31) := ⟨_, rfl⟩
  have hmk2 : (Instr.makeSlice 29 (.int .i64 (L : Int)) (.int .i64 (L : Int))).run Tryd.prog w = .ok (.slice (some ⟨w.heap.size, 0, none⟩) L L) w1 := by rw [hw1]; exact hmk
  have ho : KyRow w.heap.size L 31 k.keys 0 w1 := ⟨_, by rw [hw1]; exact heap_alloc_new w _, by simp [madeCells], fun i s hi => by omega⟩
  have q1 : Below w.heap.size w w1 := by rw [hw1]; exact (Below.refl _ _).alloc (Nat.le_refl _) _
  have HO := Lib.hid ho
  clear hmk hw1 ho hi hz0 hz1 hz2
  go_enter Tryd.func17, Tryd.ntmps17
  go_wp2_with fail
  clear hmk2
  go_loopw [4] (fun i wr => ∃ (n : Nat), n ≤ L ∧ i = .int .i64 n ∧ Hid (KyRow w.heap.size L 31 k.keys n wr) ∧ Below w.heap.size w wr) (fun i _ => L - (intOf i).toNat)
  case atStart => exact ⟨0, by omega, rfl, HO, q1⟩
  case round =>
    obtain ⟨n, hn, rfl, HO2, hq⟩ := hrel
    clear HO q1
    by_cases hlt : n < L
    · rcases hkeys with h0 | ⟨g, off, rfl, hg, hcells⟩
      · omega
      have hlt' : n < k.keys.length := by rw [HL.out]; exact hlt
      obtain ⟨v0, v1, v2, v3, v4, c0, c1, c2, c3, c4, hk⟩ := hcells n hlt'
      have HC := Lib.hid (HIH.out _ (List.getElem_mem hlt') _ wr (KeyIn.below hq _ _ hk))
      replace c0 := (hq.cell (p := ⟨g, _, none⟩) hg).trans c0
      replace c1 := (hq.cell (p := ⟨g, _, none⟩) hg).trans c1
      replace c2 := (hq.cell (p := ⟨g, _, none⟩) hg).trans c2
      replace c3 := (hq.cell (p := ⟨g, _, none⟩) hg).trans c3
      replace c4 := (hq.cell (p := ⟨g, _, none⟩) hg).trans c4
      have HLT := Lib.hid hlt'
      clear hcells hk
      have hnI : (n : Int) < (L : Int) := by omega
      go_wp2_with fail
      refine HC.out.mono ?_
      rintro e w2 ⟨v', rfl, hk2, q2⟩
      have q3 := hq.trans (q2.mono hq.size)
      have hk3 := hk2
      rw [KeyAt] at hk3
      obtain ⟨sv, a', n', cap', rfl, ⟨as', ns', cs', rfl, _⟩, _⟩ := hk3
      obtain ⟨⟨u0, u1, u2, u3, u4, d0, d1, d2, d3, d4⟩, ⟨e0, e1, e2, e3, e4⟩, hgl, hnx⟩ := HO2.out.next q2 hlt HLT.out hk2
      have q4 := below_set5 (n := n) q3 (Nat.le_refl w.heap.size) (.int .i64 k.keys[n].kind) (.int .i64 k.keys[n].flag) (.string k.keys[n].text) (.slice as' ns' cs') (.slice a' n' cap')
      have HO3 := Lib.hid hnx; have Q4 := Lib.hid q4
      generalize k.keys[n].kind = x0 at *
      generalize k.keys[n].flag = x1 at *
      generalize k.keys[n].text = x2 at *
      clear c0 c1 c2 c3 c4 q2 hnx HC hk2 q4
      go_wp2_with fail
      go_roundw
      case rel => exact ⟨n + 1, by omega, by go_num, HO3, Q4.out⟩
      case measure => simp [intOf]; omega
    · have hnn : n = L := by omega
      have ho2 := HO2.out
      rw [hnn] at ho2
      have HO3 := Lib.hid ho2
      clear hkeys ho2 hnn
      go_wp2_with fail
      go_ret
      exact ⟨rfl, HO3.out, hq⟩
set_option maxHeartbeats 2000000 in
theorem toKey_any (k : K) : k.wt ≤ 1048576 → ∀ (v : Value) (w : World), KeyIn w k v → Calls Tryd.prog 7 #[v] w (Copied w k) := by
  induction k using K.ind with
  | h k ih =>
    intro hwt v w h
    have hwt' := k.wt_eq
    rw [KeyIn] at h
    obtain ⟨sv, a, n, cap, rfl, ht, hs, hl, hc, hm, hkeys⟩ := h
    have HSV := Lib.hid hs
    obtain ⟨a2, n2, cap2, rfl, hn2, hc2, _, _⟩ := hs
    have hset : k.set.length ≤ 1048576 := by omega
    have hkl : n ≤ 1048576 := by omega
    have HIH := Lib.hid (fun c (hc : c ∈ k.keys) => ih c hc (by have := wt_mem _ _ hc; omega))
    clear ih
    obtain ⟨w1, hw1⟩ : ∃ w1, w1 = ((w.alloc (.cells #[.int .i64 k.kind, .int .i64 k.flag, .string k.text, .slice a2 n2 cap2, .slice a n cap] 25)).alloc (.cells #[.int .i64 0, .int .i64 0, .string ⟨#[]⟩, .slice none 0 0, .slice none 0 0] 31)).alloc (.cells #[.int .i64 k.kind, .int .i64 k.flag, .string k.text, .slice none 0 0, .slice none 0 0] 31) := ⟨_, rfl⟩
    have q1 : Below w.heap.size w w1 := by rw [hw1]; go_grown
    have r0 : RowAt w1 w.heap.size 25 #[.int .i64 k.kind, .int .i64 k.flag, .string k.text, .slice a2 n2 cap2, .slice a n cap] := by
      unfold RowAt; rw [hw1, Below.heap_alloc _ _ _ (by simp; omega), Below.heap_alloc _ _ _ (by simp)]; exact heap_alloc_new w _
    have r1 : RowAt w1 (w.heap.size + 1) 31 #[.int .i64 0, .int .i64 0, .string ⟨#[]⟩, .slice none 0 0, .slice none 0 0] := by
      unfold RowAt; rw [hw1, Below.heap_alloc _ _ _ (by simp)]; have := heap_alloc_new (w.alloc (.cells #[.int .i64 k.kind, .int .i64 k.flag, .string k.text, .slice a2 n2 cap2, .slice a n cap] 25)) (.cells #[.int .i64 0, .int .i64 0, .string ⟨#[]⟩, .slice none 0 0, .slice none 0 0] 31); simpa using this
    have r2 : RowAt w1 (w.heap.size + 1 + 1) 31 #[.int .i64 k.kind, .int .i64 k.flag, .string k.text, .slice none 0 0, .slice none 0 0] := by
      unfold RowAt; rw [hw1]; have := heap_alloc_new ((w.alloc (.cells #[.int .i64 k.kind, .int .i64 k.flag, .string k.text, .slice a2 n2 cap2, .slice a n cap] 25)).alloc (.cells #[.int .i64 0, .int .i64 0, .string ⟨#[]⟩, .slice none 0 0, .slice none 0 0] 31)) (.cells #[.int .i64 k.kind, .int .i64 k.flag, .string k.text, .slice none 0 0, .slice none 0 0] 31); simpa using this
    have hsz : w1.heap.size = w.heap.size + 3 := by rw [hw1]; simp
    have HW := Lib.hid hw1; have HK := Lib.hid hkeys; have HM := Lib.hid hm; have HLN := Lib.hid hl; have HN2 := Lib.hid hn2
    clear hw1 hkeys hm hwt' hl hn2
    generalize hg0 : k.kind = x0 at *
    generalize hg1 : k.flag = x1 at *
    generalize hg2 : k.text = x2 at *
    go_enter Tryd.func7, Tryd.ntmps7
    go_wp2_with fail
    rw [← HW.out]
    refine (toSpanS_any k.set _ w1 (HSV.out.below q1) hset).mono ?_
    rintro e w2 ⟨rfl, hrow, q2⟩
    have s2 := q2.size
    generalize hN1 : w1.heap.size = N1 at *
    have q3 := q1.trans (q2.mono (by omega))
    replace r0 := r0.below (by rw [hN1]; exact q2)
    replace r1 := r1.below (by rw [hN1]; exact q2)
    replace r2 := r2.below (by rw [hN1]; exact q2)
    obtain ⟨cur, hr3, hz3, hc3⟩ := hrow
    have l3 := hr3.lt
    obtain ⟨w3, hw3⟩ : ∃ w3, w3 = w2.setCell ⟨w.heap.size + 1 + 1, 3, none⟩ (.slice (some ⟨N1, 0, none⟩) k.set.length k.set.length) := ⟨_, rfl⟩
    have q4 : Below w.heap.size w w3 := by rw [hw3]; exact q3.setCell (by show w.heap.size ≤ w.heap.size + 1 + 1; omega) _
    have s3 : w3.heap.size = w2.heap.size := by rw [hw3]; simp [World.setCell]
    have ne3 : ∀ j, j ≠ w.heap.size + 1 + 1 → w3.heap[j]? = w2.heap[j]? := fun j hj => by rw [hw3]; exact Below.heap_setCell _ _ _ _ (by show j ≠ w.heap.size + 1 + 1; exact hj)
    have t0 : RowAt w3 w.heap.size _ _ := (ne3 _ (by omega)).trans r0
    have t1 : RowAt w3 (w.heap.size + 1) _ _ := (ne3 _ (by omega)).trans r1
    have t2 : RowAt w3 (w.heap.size + 1 + 1) 31 #[.int .i64 x0, .int .i64 x1, .string x2, .slice (some ⟨N1, 0, none⟩) k.set.length k.set.length, .slice none 0 0] := by rw [hw3]; exact r2.set 3 _
    have hr4 : RowAt w3 N1 49 cur := (ne3 _ (by omega)).trans hr3
    have HT0 := Lib.hid t0; have HT1 := Lib.hid t1; have HT2 := Lib.hid t2; have HR4 := Lib.hid hr4; have HC3 := Lib.hid hc3; have HW3 := Lib.hid hw3
    obtain ⟨⟨_, _, _, _, c4⟩, _⟩ := fiveC r0
    obtain ⟨⟨_, _, _, d3, _⟩, ⟨_, _, _, e3, _⟩⟩ := fiveC r2
    have hkS := toKeyS_any k HIH.out a n cap w3 HLN.out hkl hc HM.out.1 (by
      rcases HK.out with h0 | ⟨b, off, ha, hlt, h⟩
      · exact .inl h0
      · refine .inr ⟨b, off, ha, Nat.lt_of_lt_of_le hlt q4.size, fun i hi => ?_⟩
        obtain ⟨c0, c1, c2, c3, c4, e0, e1, e2, e3, e4, hh⟩ := h i hi
        have q : ∀ o c, w.cell? ⟨b, o, none⟩ = some c → w3.cell? ⟨b, o, none⟩ = some c := fun o c e => (q4.cell (p := ⟨b, o, none⟩) hlt).trans e
        exact ⟨c0, c1, c2, c3, c4, q _ _ e0, q _ _ e1, q _ _ e2, q _ _ e3, q _ _ e4, KeyIn.below q4 _ _ hh⟩)
    have HKS := Lib.hid hkS
    have z2 : w.heap.size + 1 + 1 < w2.heap.size := by omega
    have HSZ := Lib.hid hsz; have HN1 := Lib.hid hN1
    clear hsz hN1
    clear r0 r1 r2 t0 t1 t2 hr4 hc3 hw3 hr3 hkS HW hz3 q1 q2 q3 ne3
    go_wp2_with fail
    rw [← HW3.out]
    refine HKS.out.mono ?_
    rintro e w4 ⟨rfl, hky, q5⟩
    have s4 := q5.size
    have q6 := q4.trans (q5.mono q4.size)
    obtain ⟨kc, hrk, hzk, hck⟩ := hky
    have lk := hrk.lt
    obtain ⟨⟨a0, a1, a2', a3, a4⟩, ⟨b0, b1, b2, b3, b4⟩⟩ := fiveC (HT2.out.below q5)
    obtain ⟨⟨d0, d1, d2, d3, d4⟩, ⟨f0, f1, f2, f3, f4⟩⟩ := fiveC (HT1.out.below q5)
    have HR5 := Lib.hid (HR4.out.below q5); have HRK := Lib.hid hrk; have HCK := Lib.hid hck
    have z3 : w.heap.size + 1 + 1 < w4.heap.size := by omega
    have HLL := Lib.hid (show N1 < w3.heap.size by omega)
    clear hrk hck HKS HW3 c4 e3 q5 HT0
    generalize hN3 : w3.heap.size = N3 at *
    have HN3 := Lib.hid hN3
    clear hN3
    go_wp2_with fail
    refine bodyPost_ret (v := .agg #[.int .i64 x0, .int .i64 x1, .string x2, .slice (some ⟨N1, 0, none⟩) k.set.length k.set.length, .slice (some ⟨N3, 0, none⟩) n n]) (by simp [results, Tryd.results7, go_sem, *]) rfl ⟨_, rfl, ?_, ?_⟩
    · subst hg0 hg1 hg2
      refine keyAt_mk k (fun j hj => ?_) (by simp [World.setCell]) (by have := HN1.out; have := HSZ.out; omega) HLL.out HR5.out HC3.out hset HRK.out HCK.out HLN.out hkl
      have := HSZ.out
      repeat rw [Below.heap_setCell _ _ _ _ (by dsimp only; omega)]
    · repeat refine Below.setCell ?_ (by dsimp only; omega) _
      exact q6
end Go.Proofs.YtgcdopmidmelfaaDoor

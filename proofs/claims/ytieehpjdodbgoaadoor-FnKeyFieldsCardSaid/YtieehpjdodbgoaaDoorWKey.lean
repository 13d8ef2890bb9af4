/- WALKS of the laws of keys. -/
import Derived.Test.YtieehpjdodbgoaaDoorDrawKV
import Derived.Test.YtieehpjdodbgoaaDoorKTree
namespace Go.Proofs.YtieehpjdodbgoaaDoor
open Go.RowKit
set_option linter.unusedVariables false

set_option maxRecDepth 8000 in
set_option maxHeartbeats 2000000 in
theorem fnKeyParts.walk (a : Option Addr) (len cap : Nat) (hl : len ≤ cap) (hm : cap ≤ maxLen) (w : World) (hN : Names w) (hc : CodeAt w a len) :
    Calls Tryd.prog 5 #[.slice a len cap] w fun e w' => e = .returned (.bool true) ∧ Below w.heap.size w w' := by
  by_cases hlen : 1048576 < len
  · unfold maxLen at hm
    clear hc hN
    go_enter Tryd.func5, Tryd.ntmps5
    go_wp2_with fail
    go_ret
    exact ⟨rfl, Below.refl _ _⟩
  go_enter Tryd.func5, Tryd.ntmps5
  unfold maxLen at hm
  go_wp2_with fail
  refine (DrawKeyValid_any a len cap hl w hc).mono ?_
  clear hc
  rintro e w1 ⟨k, S, v, rfl, hk, hi, hlow, hF, hn, b1⟩
  obtain ⟨sa, sn, sc, ka, kn, kc, rfl, hset, hsn, hkn, hkc, hkm, hsm⟩ := hk.open
  obtain ⟨kd, hkd⟩ : ∃ kd, k.kind = kd := ⟨_, rfl⟩
  rw [hkd] at hk ⊢
  have HKD := Lib.hid hkd
  obtain ⟨w2, hw2⟩ : ∃ w2, w2 = w1.alloc (.cells #[.int .i64 kd, .int .i64 k.flag, .string k.text, .slice sa sn sc, .slice ka kn kc] 26) := ⟨_, rfl⟩
  have hKL : KL w S k #[.int .i64 kd, .int .i64 k.flag, .string k.text, .slice sa sn sc, .slice ka kn kc] w1.heap.size w2 := by
    have b2 : Below w1.heap.size w1 w2 := by rw [hw2]; exact (Below.refl _ _).alloc (Nat.le_refl _) _
    exact ⟨hk.below hi b2, hi.below b2, by rw [hw2]; exact heap_alloc_new w1 _, fun h => Nat.lt_irrefl _ (hi.lt h), b1.trans (b2.mono b1.size), b1.size⟩
  have HL := Lib.hid hKL; have HW := Lib.hid hw2; have HKN := Lib.hid hkn
  clear hKL hw2 hk hi hlow b1 hset hsn hkn hkd
  go_wp2_with fail
  rw [← HW.out]
  refine (implKeyValid_any k _ S w2 HL.out.key HL.out.ins hF (hN.below HL.out.bel)).mono ?_
  rintro e w3 ⟨rfl, b3⟩
  replace HL := Lib.hid (HL.out.below b3)
  clear b3 HW
  obtain ⟨e0, e1, e2, e3, e4, y0, y1, y2, y3, y4⟩ := five_cells HL.out.box
  have hlt := HL.out.lt
  rcases hok : keyOk k with _ | _
  · have hs := specKeyValid_any k _ S w3 HL.out.key HL.out.ins hF (by omega)
    rw [hok] at hs
    have HS := Lib.hid hs
    clear hok hs
    go_wp2_with fail
    refine HS.out.mono ?_
    rintro e w4 ⟨rfl, b4⟩
    replace HL := Lib.hid (HL.out.below b4)
    clear b4 HS e0 e1 e2 e3 e4 y0 y1 y2 y3 y4
    go_wp2_with fail
    go_ret
    exact ⟨rfl, HL.out.bel⟩
  have hs := specKeyValid_any k _ S w3 HL.out.key HL.out.ins hF (by omega)
  rw [hok] at hs
  have HS := Lib.hid hs; have HOK := Lib.hid hok
  clear hok hs
  go_wp2_with fail
  refine HS.out.mono ?_
  rintro e w4 ⟨rfl, b4⟩
  replace HL := Lib.hid (HL.out.below b4)
  clear b4 HS e0 e1 e2 e3 e4 y0 y1 y2 y3 y4 hlt
  obtain ⟨e0, e1, e2, e3, e4, y0, y1, y2, y3, y4⟩ := five_cells HL.out.box
  have hlt := HL.out.lt
  go_wp2_with fail
  go_loopw [6] (fun i wr => ∃ n : Nat, n ≤ kn ∧ i = .int .i64 n ∧ Hid (KL w S k #[.int .i64 kd, .int .i64 k.flag, .string k.text, .slice sa sn sc, .slice ka kn kc] w1.heap.size wr)) (fun i _ => kn - (intOf i).toNat)
  case atStart => exact ⟨0, by omega, rfl, HL.out⟩
  case round =>
    clear HL e0 e1 e2 e3 e4 y0 y1 y2 y3 y4 hlt
    obtain ⟨n, hnk, rfl, HL⟩ := hrel
    obtain ⟨e0, e1, e2, e3, e4, y0, y1, y2, y3, y4⟩ := five_cells HL.out.box
    have hlt := HL.out.lt
    by_cases hlk : n < kn
    · have hlt' : n < k.keys.length := by rw [HKN.out]; exact hlk
      obtain ⟨g, off, rfl, hcells⟩ := HL.out.key.keys (by omega)
      obtain ⟨c0, c1, c2, c3, c4, d0, d1, d2, d3, d4, hc⟩ := hcells n hlt'
      have hko : keyOk k.keys[n] = true := keyOk_part HOK.out (List.getElem_mem hlt')
      have hk1 := implKeyValid_any k.keys[n] _ S wr hc HL.out.ins (hF.key (List.getElem_mem hlt')) (hN.below HL.out.bel)
      rw [hko] at hk1
      have HC := Lib.hid hk1
      have hnI : (n : Int) < (kn : Int) := by omega
      clear hk1 hko hcells hc
      go_wp2_with fail
      refine HC.out.mono ?_
      rintro e w5 ⟨rfl, b5⟩
      replace HL := Lib.hid (HL.out.below b5)
      clear b5 HC e0 e1 e2 e3 e4 y0 y1 y2 y3 y4 d0 d1 d2 d3 d4
      go_wp2_with fail
      go_roundw
      case rel => exact ⟨n + 1, by omega, by go_num, HL.out⟩
      case measure => simp [intOf]; omega
    · obtain rfl : n = kn := by omega
      have hnn := lawNodes_any k _ S wr HL.out.key HL.out.ins (by omega)
      have hle : k.nodes ≤ 9 := by have := HOK.out; unfold keyOk at this; simp at this; exact this.2
      obtain ⟨N, hNN⟩ : ∃ N, k.nodes = N := ⟨_, rfl⟩
      rw [hNN] at hnn hle
      have HC := Lib.hid hnn
      have hle' : (N : Int) ≤ 9 := by omega
      clear hnn hNN hn
      go_wp2_with fail
      refine HC.out.mono ?_
      rintro e w5 ⟨rfl, b5⟩
      replace HL := Lib.hid (HL.out.below b5)
      clear b5 HC e0 e1 e2 e3 e4 y0 y1 y2 y3 y4
      go_wp2_with fail
      go_ret
      exact ⟨rfl, HL.out.bel⟩
theorem kv_intro {T q : Prop} (h : T) (k : T → q) : q := k h
set_option maxRecDepth 8000 in
set_option maxHeartbeats 4000000 in
theorem fnKeyNodes.walk (a : Option Addr) (len cap : Nat) (hl : len ≤ cap) (hm : cap ≤ maxLen) (w : World) (hN : Names w) (hc : CodeAt w a len) :
    Calls Tryd.prog 4 #[.slice a len cap] w fun e w' => e = .returned (.bool true) ∧ Below w.heap.size w w' := by
  by_cases hlen : 1048576 < len
  · unfold maxLen at hm
    clear hc hN
    go_enter Tryd.func4, Tryd.ntmps4
    go_wp2_with fail
    go_ret
    exact ⟨rfl, Below.refl _ _⟩
  go_enter Tryd.func4, Tryd.ntmps4
  unfold maxLen at hm
  go_wp2_with fail
  refine (DrawKeyValid_any a len cap hl w hc).mono ?_
  clear hc
  rintro e w1 ⟨k, S, v, rfl, hk, hi, hlow, hF, hn, b1⟩
  obtain ⟨sa, sn, sc, ka, kn, kc, rfl, hset, hsn, hkn, hkc, hkm, hsm⟩ := hk.open
  obtain ⟨kd, hkd⟩ : ∃ kd, k.kind = kd := ⟨_, rfl⟩
  rw [hkd] at hk ⊢
  have HKD := Lib.hid hkd
  obtain ⟨w2, hw2⟩ : ∃ w2, w2 = w1.alloc (.cells #[.int .i64 kd, .int .i64 k.flag, .string k.text, .slice sa sn sc, .slice ka kn kc] 26) := ⟨_, rfl⟩
  have hKL : KL w S k #[.int .i64 kd, .int .i64 k.flag, .string k.text, .slice sa sn sc, .slice ka kn kc] w1.heap.size w2 := by
    have b2 : Below w1.heap.size w1 w2 := by rw [hw2]; exact (Below.refl _ _).alloc (Nat.le_refl _) _
    exact ⟨hk.below hi b2, hi.below b2, by rw [hw2]; exact heap_alloc_new w1 _, fun h => Nat.lt_irrefl _ (hi.lt h), b1.trans (b2.mono b1.size), b1.size⟩
  have HL := Lib.hid hKL; have HW := Lib.hid hw2; have HKN := Lib.hid hkn
  clear hKL hw2 hk hi hlow b1 hset hsn hkn hkd
  go_wp2_with fail
  rw [← HW.out]
  refine (implKeyValid_any k _ S w2 HL.out.key HL.out.ins hF (hN.below HL.out.bel)).mono ?_
  rintro e w3 ⟨rfl, b3⟩
  replace HL := Lib.hid (HL.out.below b3)
  clear b3 HW
  obtain ⟨e0, e1, e2, e3, e4, y0, y1, y2, y3, y4⟩ := five_cells HL.out.box
  have hlt := HL.out.lt
  rcases hok : keyOk k with _ | _
  · have hs := specKeyValid_any k _ S w3 HL.out.key HL.out.ins hF (by omega)
    rw [hok] at hs
    have HS := Lib.hid hs
    clear hok hs
    go_wp2_with fail
    refine HS.out.mono ?_
    rintro e w4 ⟨rfl, b4⟩
    replace HL := Lib.hid (HL.out.below b4)
    clear b4 HS e0 e1 e2 e3 e4 y0 y1 y2 y3 y4
    go_wp2_with fail
    go_ret
    exact ⟨rfl, HL.out.bel⟩
  have hs := specKeyValid_any k _ S w3 HL.out.key HL.out.ins hF (by omega)
  rw [hok] at hs
  have HS := Lib.hid hs; have HOK := Lib.hid hok
  clear hok hs
  go_wp2_with fail
  refine HS.out.mono ?_
  rintro e w4 ⟨rfl, b4⟩
  replace HL := Lib.hid (HL.out.below b4)
  clear b4 HS e0 e1 e2 e3 e4 y0 y1 y2 y3 y4 hlt
  obtain ⟨e0, e1, e2, e3, e4, y0, y1, y2, y3, y4⟩ := five_cells HL.out.box
  have hlt := HL.out.lt
  have hcn : ∀ W : World, KL w S k #[.int .i64 kd, .int .i64 k.flag, .string k.text, .slice sa sn sc, .slice ka kn kc] w1.heap.size W → Calls Tryd.prog 11 #[.agg #[.int .i64 kd, .int .i64 k.flag, .string k.text, .slice sa sn sc, .slice ka kn kc]] W fun e w' => e = .returned (.int .i64 (k.nodes : Int)) ∧ Below W.heap.size W w' := fun W h1 => lawNodes_any k _ S W h1.key h1.ins (by omega)
  have hnot : keyOk (.mk 5 0 ⟨#[]⟩ [] [k]) = decide (k.nodes < 9) := keyOk_not k HOK.out
  obtain ⟨N, hNN⟩ : ∃ N, k.nodes = N := ⟨_, rfl⟩
  rw [hNN] at hcn hnot hn
  clear hNN
  by_cases h9 : N < 9
  · rw [decide_eq_true h9] at hnot
    have h9' : (N : Int) < 9 := by omega
    have hcv : ∀ (W : World) (b : Nat), KL w S k #[.int .i64 kd, .int .i64 k.flag, .string k.text, .slice sa sn sc, .slice ka kn kc] w1.heap.size W → W.heap[b]? = some (.cells #[.int .i64 kd, .int .i64 k.flag, .string k.text, .slice sa sn sc, .slice ka kn kc] 26 (0, 0)) →
        Calls Tryd.prog 9 #[.agg #[.int .i64 5, .int .i64 0, .string ⟨#[]⟩, .slice none 0 0, .slice (some ⟨b, 0, none⟩) 1 1]] W fun e w' => e = .returned (.bool true) ∧ Below W.heap.size W w' := fun W b h1 h2 => by
      have := implKeyValid_any _ _ _ W (KeyAt.one h1.key h2) (h1.ins.add (lt_of_block h2)) (Fit.one hF) (hN.below h1.bel)
      rw [hnot] at this; exact this
    have HCV := Lib.hid hcv; have HCN := Lib.hid hcn
    clear hcv hcn hnot
    go_wp2_with fail
    go_region_held3 (fun W => W.cell? ⟨w1.heap.size, 0, none⟩ = some (.int .i64 kd) ∧ W.cell? ⟨w1.heap.size, 1, none⟩ = some (.int .i64 k.flag) ∧ W.cell? ⟨w1.heap.size, 2, none⟩ = some (.string k.text) ∧ W.cell? ⟨w1.heap.size, 3, none⟩ = some (.slice sa sn sc) ∧ W.cell? ⟨w1.heap.size, 4, none⟩ = some (.slice ka kn kc)) (first | exact ⟨e0, e1, e2, e3, e4⟩ | (refine ⟨?_, ?_, ?_, ?_, ?_⟩ <;> go_keep; done) | (go_keep; done))
      (first
      | (go_at_call 11; refine (HCN.out _ ?_).mono ?_; (first | (focus (refine KL.below HV.out ?_; go_grown; done)) | (focus (refine KL.below HL.out ?_; go_grown; done))); rintro e wn ⟨rfl, q⟩; (first | (refine kv_intro (T := wn.heap[w4.heap.size]? = some (.cells #[.int .i64 kd, .int .i64 k.flag, .string k.text, .slice sa sn sc, .slice ka kn kc] 26 (0, 0))) ?_ ?_; (focus (refine (q.block _ ?_).trans ?_; (focus (simp [World.drew]; done)); (focus (exact heap_alloc_new w4 _)))); intro zb; have ZB := Lib.hid zb; clear zb) | skip); (first | (refine kv_intro (KL.below (KL.below HV.out ?_) q) ?_; (focus (go_grown; done)); intro hM) | (refine kv_intro (KL.below (KL.below HL.out ?_) q) ?_; (focus (go_grown; done)); intro hM)); clear e0 e1 e2 e3 e4 y0 y1 y2 y3 y4; obtain ⟨e0, e1, e2, e3, e4, y0, y1, y2, y3, y4⟩ := five_cells hM.box; have hltm := hM.lt; have HM := Lib.hid hM; clear hM q)
      | (go_at_call 9; refine (HCV.out _ _ ?_ ?_).mono ?_; (first | (focus (refine KL.below HM.out ?_; go_grown; done)) | (focus (refine KL.below HL.out ?_; go_grown; done))); (first | (focus (exact heap_alloc_new _ _)) | (focus (exact ZB.out)) | (focus (refine (Below.heap_alloc _ _ _ ?_).trans ZB.out; simp))); rintro e wv ⟨rfl, q⟩; (first | (refine kv_intro (KL.below (KL.below HM.out ?_) q) ?_; (focus (go_grown; done)); intro hV) | (refine kv_intro (KL.below (KL.below HL.out ?_) q) ?_; (focus (go_grown; done)); intro hV)); clear e0 e1 e2 e3 e4 y0 y1 y2 y3 y4; obtain ⟨e0, e1, e2, e3, e4, y0, y1, y2, y3, y4⟩ := five_cells hV.box; have hltv := hV.lt; have HV := Lib.hid hV; clear hV q))
    all_goals
      go_wp2_with fail
      go_ret
      refine ⟨ret_bool (by first | rfl | (simp; omega)), ?_⟩
      first | (refine Below.trans HM.out.bel (Below.mono (B := wn.heap.size) ?_ HM.out.bel.size); go_grown; done) | (refine KL.bel (KL.below HM.out ?_); go_grown; done) | (refine KL.bel (KL.below HV.out ?_); go_grown; done)
  · rw [decide_eq_false h9] at hnot
    have h9' : ¬ (N : Int) < 9 := by omega
    have hcv : ∀ (W : World) (b : Nat), KL w S k #[.int .i64 kd, .int .i64 k.flag, .string k.text, .slice sa sn sc, .slice ka kn kc] w1.heap.size W → W.heap[b]? = some (.cells #[.int .i64 kd, .int .i64 k.flag, .string k.text, .slice sa sn sc, .slice ka kn kc] 26 (0, 0)) →
        Calls Tryd.prog 9 #[.agg #[.int .i64 5, .int .i64 0, .string ⟨#[]⟩, .slice none 0 0, .slice (some ⟨b, 0, none⟩) 1 1]] W fun e w' => e = .returned (.bool false) ∧ Below W.heap.size W w' := fun W b h1 h2 => by
      have := implKeyValid_any _ _ _ W (KeyAt.one h1.key h2) (h1.ins.add (lt_of_block h2)) (Fit.one hF) (hN.below h1.bel)
      rw [hnot] at this; exact this
    have HCV := Lib.hid hcv; have HCN := Lib.hid hcn
    clear hcv hcn hnot
    go_wp2_with fail
    go_region_held3 (fun W => W.cell? ⟨w1.heap.size, 0, none⟩ = some (.int .i64 kd) ∧ W.cell? ⟨w1.heap.size, 1, none⟩ = some (.int .i64 k.flag) ∧ W.cell? ⟨w1.heap.size, 2, none⟩ = some (.string k.text) ∧ W.cell? ⟨w1.heap.size, 3, none⟩ = some (.slice sa sn sc) ∧ W.cell? ⟨w1.heap.size, 4, none⟩ = some (.slice ka kn kc)) (first | exact ⟨e0, e1, e2, e3, e4⟩ | (refine ⟨?_, ?_, ?_, ?_, ?_⟩ <;> go_keep; done) | (go_keep; done))
      (first
      | (go_at_call 11; refine (HCN.out _ ?_).mono ?_; (first | (focus (refine KL.below HV.out ?_; go_grown; done)) | (focus (refine KL.below HL.out ?_; go_grown; done))); rintro e wn ⟨rfl, q⟩; (first | (refine kv_intro (T := wn.heap[w4.heap.size]? = some (.cells #[.int .i64 kd, .int .i64 k.flag, .string k.text, .slice sa sn sc, .slice ka kn kc] 26 (0, 0))) ?_ ?_; (focus (refine (q.block _ ?_).trans ?_; (focus (simp [World.drew]; done)); (focus (exact heap_alloc_new w4 _)))); intro zb; have ZB := Lib.hid zb; clear zb) | skip); (first | (refine kv_intro (KL.below (KL.below HV.out ?_) q) ?_; (focus (go_grown; done)); intro hM) | (refine kv_intro (KL.below (KL.below HL.out ?_) q) ?_; (focus (go_grown; done)); intro hM)); clear e0 e1 e2 e3 e4 y0 y1 y2 y3 y4; obtain ⟨e0, e1, e2, e3, e4, y0, y1, y2, y3, y4⟩ := five_cells hM.box; have hltm := hM.lt; have HM := Lib.hid hM; clear hM q)
      | (go_at_call 9; refine (HCV.out _ _ ?_ ?_).mono ?_; (first | (focus (refine KL.below HM.out ?_; go_grown; done)) | (focus (refine KL.below HL.out ?_; go_grown; done))); (first | (focus (exact heap_alloc_new _ _)) | (focus (exact ZB.out)) | (focus (refine (Below.heap_alloc _ _ _ ?_).trans ZB.out; simp))); rintro e wv ⟨rfl, q⟩; (first | (refine kv_intro (KL.below (KL.below HM.out ?_) q) ?_; (focus (go_grown; done)); intro hV) | (refine kv_intro (KL.below (KL.below HL.out ?_) q) ?_; (focus (go_grown; done)); intro hV)); clear e0 e1 e2 e3 e4 y0 y1 y2 y3 y4; obtain ⟨e0, e1, e2, e3, e4, y0, y1, y2, y3, y4⟩ := five_cells hV.box; have hltv := hV.lt; have HV := Lib.hid hV; clear hV q))
    all_goals
      go_wp2_with fail
      go_ret
      refine ⟨ret_bool (by first | rfl | (simp; omega)), ?_⟩
      first | (refine Below.trans HM.out.bel (Below.mono (B := wn.heap.size) ?_ HM.out.bel.size); go_grown; done) | (refine KL.bel (KL.below HM.out ?_); go_grown; done) | (refine KL.bel (KL.below HV.out ?_); go_grown; done)
end Go.Proofs.YtieehpjdodbgoaaDoor

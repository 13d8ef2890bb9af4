/- WALKS: two keys are joined; a mailbox and a key are drawn; a set is drawn. -/
import Derived.Test.YtlkfaamjbecieaaDoorSSearch
import Derived.Test.YtlkfaamjbecieaaDoorDraws
import Derived.Test.YtlkfaamjbecieaaDoorDrawKV
namespace Go.Proofs.YtlkfaamjbecieaaDoor
open Go.RowKit
set_option linter.unusedVariables false

theorem KeyAt.two {v : World} {S : Nat → Prop} {n : Int} {a c : K} {c0 c1 c2 c3 c4 d0 d1 d2 d3 d4 : Value} {b : Nat} {t : TypeId} (ha : KeyAt v S a (.agg #[c0, c1, c2, c3, c4])) (hc : KeyAt v S c (.agg #[d0, d1, d2, d3, d4])) (hb : v.heap[b]? = some (.cells #[c0, c1, c2, c3, c4, d0, d1, d2, d3, d4] t (0, 0))) :
    KeyAt v (fun j => S j ∨ j = b) (kjoin n a c) (.agg #[.int .i64 n, .int .i64 0, .string ⟨#[]⟩, .slice none 0 0, .slice (some ⟨b, 0, none⟩) 2 2]) := by
  rw [KeyAt]
  refine ⟨_, _, 2, 2, rfl, SetAt.none, rfl, Nat.le_refl _, ⟨by omega, fun e => by cases e⟩, .inr ⟨b, 0, rfl, .inr rfl, fun i hi => ?_⟩⟩
  have h0 : i = 0 ∨ i = 1 := by simp [kjoin, K.keys] at hi; omega
  rcases h0 with rfl | rfl
  · exact ⟨c0, c1, c2, c3, c4, cell_of_block hb rfl, cell_of_block hb rfl, cell_of_block hb rfl, cell_of_block hb rfl, cell_of_block hb rfl, ha.more fun j hj => .inl hj⟩
  · exact ⟨d0, d1, d2, d3, d4, cell_of_block hb rfl, cell_of_block hb rfl, cell_of_block hb rfl, cell_of_block hb rfl, cell_of_block hb rfl, hc.more fun j hj => .inl hj⟩
theorem Fit.two {n : Int} {a c : K} (h : a.Fit) (h2 : c.Fit) : (kjoin n a c).Fit := .mk _ (show (⟨#[]⟩ : ByteArray).size ≤ 1048576 from by decide) fun x hx => by
  have : x = a ∨ x = c := by simpa [kjoin, K.keys] using hx
  rcases this with rfl | rfl
  · exact h
  · exact h2
theorem alloc_at (w : World) (o : Obj) {n : Nat} (h : w.heap.size = n) : (w.alloc o).heap[n]? = some o := by subst h; exact heap_alloc_new w o
theorem join_any (n : Int) (a c : K) (va vc : Value) (S : Nat → Prop) (w : World) (ha : KeyAt w S a va) (hc : KeyAt w S c vc) (hN : Ins S w) :
    Calls Tryd.prog 21 #[.int .i64 n, va, vc] w fun e w' => ∃ g, e = .returned (.agg #[.int .i64 n, .int .i64 0, .string ⟨#[]⟩, .slice none 0 0, .slice (some ⟨g, 0, none⟩) 2 2]) ∧ w.heap.size ≤ g ∧ KeyAt w' (fun j => S j ∨ j = g) (kjoin n a c) (.agg #[.int .i64 n, .int .i64 0, .string ⟨#[]⟩, .slice none 0 0, .slice (some ⟨g, 0, none⟩) 2 2]) ∧ Ins (fun j => S j ∨ j = g) w' ∧ Below w.heap.size w w' := by
  have ha' := ha
  have hc' := hc
  obtain ⟨sa, sn, sc, ka, kn, kc, rfl, _⟩ := ha.open
  obtain ⟨sa2, sn2, sc2, ka2, kn2, kc2, rfl, _⟩ := hc.open
  have fin : ∀ W : World, Below w.heap.size w W → w.heap.size + 1 + 1 + 1 < W.heap.size → W.heap[w.heap.size + 1 + 1 + 1]? = some (.cells #[.int .i64 a.kind, .int .i64 a.flag, .string a.text, .slice sa sn sc, .slice ka kn kc, .int .i64 c.kind, .int .i64 c.flag, .string c.text, .slice sa2 sn2 sc2, .slice ka2 kn2 kc2] 29 (0, 0)) → (w.heap.size ≤ w.heap.size + 1 + 1 + 1 ∧ KeyAt W (fun j => S j ∨ j = w.heap.size + 1 + 1 + 1) (kjoin n a c) (.agg #[.int .i64 n, .int .i64 0, .string ⟨#[]⟩, .slice none 0 0, .slice (some ⟨w.heap.size + 1 + 1 + 1, 0, none⟩) 2 2]) ∧ Ins (fun j => S j ∨ j = w.heap.size + 1 + 1 + 1) W ∧ Below w.heap.size w W) :=
    fun W q hl hb => ⟨by omega, KeyAt.two (ha'.below hN q) (hc'.below hN q) hb, (hN.below q).add hl, q⟩
  have HF := Lib.hid fin
  clear ha hc ha' hc' fin
  go_enter Tryd.func21, Tryd.ntmps21
  go_wp2_with fail
  refine bodyPost_ret (v := .agg #[.int .i64 n, .int .i64 0, .string ⟨#[]⟩, .slice none 0 0, .slice (some ⟨w.heap.size + 1 + 1 + 1, 0, none⟩) 2 2]) (by simp [results, Tryd.results21, go_sem]) rfl ⟨_, rfl, HF.out _ ?_ ?_ ?_⟩
  · go_grown
  · simp
  · exact alloc_at _ _ (by simp)
theorem DrawSetText_any (a : Option Addr) (len cap : Nat) (hcap : len ≤ cap) (w : World) (hc : CodeAt w a len) :
    Calls Tryd.prog 23 #[.slice a len cap] w fun e w' => ∃ (l : List (Int × Int)) (x : Option Addr) (cp : Nat) (S : Nat → Prop), e = .returned (.slice x l.length cp) ∧ SetAt w' S (.slice x l.length cp) l ∧ Ins S w' ∧ (∀ j, S j → w.heap.size ≤ j) ∧ l.length ≤ 10 ∧ Below w.heap.size w w' := by
  go_enter Tryd.func23, Tryd.ntmps23
  go_wp2_with fail
  refine (l6Open_any a len cap hcap w hc).mono ?_
  clear hc
  rintro e w1 ⟨r, hr, rfl, h1, b1⟩
  go_wp2_with fail
  refine (l91Set_any r 0 (by omega) _ h1).mono ?_
  rintro e w2 ⟨l, x, cp, rfl, hl, ho, h2, g2⟩
  have s1 := b1.size
  have b2 := b1.grown g2 b1.size (fun k hk => by cases hk; omega)
  have hset := ho.set (by omega) (fun j => w1.heap.size ≤ j ∧ j < w2.heap.size) (fun j h1 h2 => ⟨h1, h2⟩)
  have HS := Lib.hid hset
  clear h1 h2 g2 b1 ho hset
  go_wp2_with fail
  go_ret
  exact ⟨l, x, cp, _, rfl, HS.out, fun j hj => hj.2, fun j hj => by omega, by omega, b2⟩
/-- A drawn mailbox and a drawn key. -/
def DrawnBoth (w : World) (e : Ending) (w' : World) : Prop :=
  ∃ (b : B) (a : Option Addr) (cap : Nat) (k : Go.Proofs.YtlkfaamjbecieaaDoor.K) (S : Nat → Prop) (v : Value), e = .returned (.tuple #[.agg #[.int .i64 b.next, .slice a b.mail.length cap], v]) ∧ Drawn w' w.heap.size (.slice a b.mail.length cap) b ∧ KeyAt w' S k v ∧ Ins S w' ∧ (∀ j, S j → w.heap.size ≤ j) ∧ k.Fit ∧ k.nodes + 1 ≤ 32 ∧ Below w.heap.size w w'
set_option maxRecDepth 100000 in
set_option maxHeartbeats 1000000 in
theorem DrawSearchBox_any (a : Option Addr) (len cap : Nat) (hcap : len ≤ cap) (w : World) (hc : CodeAt w a len) :
    Calls Tryd.prog 13 #[.slice a len cap] w (DrawnBoth w) := by
  obtain ⟨w0, hw0⟩ : ∃ w0, w0 = (w.alloc (.cells #[.int .i64 0, .slice none 0 0] 25)).alloc (.cells #[.int .i64 0, .int .i64 0, .string ⟨#[]⟩, .slice none 0 0, .slice none 0 0] 29) := ⟨_, rfl⟩
  have z0 : w0.heap[w.heap.size]? = some (.cells #[.int .i64 0, .slice none 0 0] 25 (0, 0)) := by rw [hw0, Below.heap_alloc _ _ _ (by simp)]; exact heap_alloc_new w _
  have k0 : w0.heap[w.heap.size + 1]? = some (.cells #[.int .i64 0, .int .i64 0, .string ⟨#[]⟩, .slice none 0 0, .slice none 0 0] 29 (0, 0)) := by
    have := heap_alloc_new (w.alloc (.cells #[.int .i64 0, .slice none 0 0] 25)) (.cells #[.int .i64 0, .int .i64 0, .string ⟨#[]⟩, .slice none 0 0, .slice none 0 0] 29)
    rw [hw0]; simpa using this
  have b0 : Below w.heap.size w w0 := by rw [hw0]; go_grown
  have l0 := lt_of_block k0
  have HW := Lib.hid hw0
  clear hw0
  go_enter Tryd.func13, Tryd.ntmps13
  go_wp2_with fail
  rw [← HW.out]
  refine (l6Open_any a len cap hcap w0 (hc.below b0)).mono ?_
  clear hc HW
  rintro e w1 ⟨r, hr, rfl, h1, b1⟩
  have z1 := (b1.block _ (by omega)).trans z0
  have k1 := (b1.block _ l0).trans k0
  have b1' := b0.trans (b1.mono b0.size)
  have s1 := b1.size
  clear z0 k0 b0 b1
  go_wp2_with fail
  refine (l91Box_at r 0 (by omega) _ h1).mono ?_
  rintro e w2 ⟨b, a2, cap2, rfl, hb, h2, g2⟩
  have z2 := (g2.block w.heap.size (by omega) (by simp; omega)).trans z1
  have k2 := (g2.block (w.heap.size + 1) (by omega) (by simp; omega)).trans k1
  have b2 := b1'.grown g2 b1'.size (fun k hk => by cases hk; omega)
  have s2 := g2.size
  have l2 := h2.lt
  have l1 := h1.lt
  obtain ⟨w3, hw3⟩ : ∃ w3, w3 = w2.alloc (.cells #[.int .i64 b.next, .slice a2 b.mail.length cap2] 25) := ⟨_, rfl⟩
  have q23 : Below w2.heap.size w2 w3 := by rw [hw3]; exact (Below.refl _ _).alloc (Nat.le_refl _) _
  have y3 : w3.heap[w2.heap.size]? = some (.cells #[.int .i64 b.next, .slice a2 b.mail.length cap2] 25 (0, 0)) := by rw [hw3]; exact heap_alloc_new w2 _
  have z3 := (q23.block _ (lt_of_block z2)).trans z2
  have k3 := (q23.block _ (lt_of_block k2)).trans k2
  have hb3 := hb.below q23
  have h3 := h2.below q23
  have b3 := b2.trans (q23.mono b2.size)
  have s3 := q23.size
  have HW := Lib.hid hw3; have HB := Lib.hid hb3; have Z3 := Lib.hid z3; have K3 := Lib.hid k3; have Y3 := Lib.hid y3
  have ly := lt_of_block y3
  clear hw3 z1 k1 z2 k2 b1' b2 h1 h2 hb g2 q23 hb3 z3 k3 y3
  go_wp2_with fail
  rw [← HW.out]
  obtain ⟨d0, d1, e0, e1⟩ := two_cells Y3.out
  have n1 := ne_both (show w.heap.size < w2.heap.size by omega)
  have n2 := ne_both (show w.heap.size + 1 < w2.heap.size by omega)
  clear e0 e1
  go_region_held3 (fun W => W.cell? ⟨w2.heap.size, 0, none⟩ = some (.int .i64 b.next) ∧ W.cell? ⟨w2.heap.size, 1, none⟩ = some (.slice a2 b.mail.length cap2)) (first | (with_reducible exact ⟨d0, d1⟩) | (go_keep; done) | exact ⟨d0, d1⟩) ((go_at_call 30; refine (l91Odd_any r (0 + 100) (by omega) _ (by first | exact h3 | exact h3.drew)).mono ?_; rintro e w4 ⟨k, S, v, rfl, hk, hi, hl, hF, hn, hR, gR⟩; obtain ⟨sa, sn, sc, ka, kn, kc, rfl, hjunk⟩ := hk.open; clear hjunk; have z4 := res_kept Z3.out gR rfl (by omega); have k4 := res_kept K3.out gR rfl (by omega); have y4 := res_kept Y3.out gR rfl (by omega); have hb4 := Drawn.grown (HB.out.below ((Below.refl _ _).drew)) gR l1; have b4 := b3.drew.grown gR (by show w.heap.size ≤ w3.heap.size; omega) (fun k hk => by cases hk; omega); clear d0 d1; obtain ⟨c0, c1, f0, f1⟩ := two_cells z4; obtain ⟨d0, d1, e0, e1⟩ := two_cells y4; obtain ⟨x0, x1, x2, x3, x4, u0, u1, u2, u3, u4⟩ := five_cells k4; have HC := Lib.hid hb4; have HKA := Lib.hid hk; have HI := Lib.hid hi; have HLW := Lib.hid hl; have LW := lt_of_block z4; have LK := lt_of_block k4; clear z4 k4 y4 hb4 gR hR hk hi hl))
  have hW0 : w.heap.size < w1.heap.size := by omega
  have hW1 : w.heap.size + 1 < w1.heap.size := by omega
  have hS3 : w.heap.size + 1 < w3.heap.size := by omega
  obtain ⟨V, hV⟩ : ∃ V, V = (w4.setCell ⟨w.heap.size, 0, none⟩ (.int .i64 b.next)).setCell ⟨w.heap.size, 1, none⟩ (.slice a2 b.mail.length cap2) := ⟨_, rfl⟩
  have keepV : ∀ j, j ≠ w.heap.size → V.heap[j]? = w4.heap[j]? := fun j hj => by rw [hV, Below.heap_setCell _ _ _ _ hj, Below.heap_setCell _ _ _ _ hj]
  obtain ⟨g1, g2, g3, g4, g5⟩ := five_keeps V (w.heap.size + 1) (.int .i64 k.kind) (.int .i64 k.flag) (.string k.text) (.slice sa sn sc) (.slice ka kn kc)
  have sizV : V.heap.size = w4.heap.size := by rw [hV]; simp [World.setCell]
  have bV : Below w.heap.size w V := by rw [hV]; exact (b4.setCell (by show w.heap.size ≤ w.heap.size; omega) _).setCell (by show w.heap.size ≤ w.heap.size; omega) _
  have keep5 : ∀ j, S j → (five V (w.heap.size + 1) (.int .i64 k.kind) (.int .i64 k.flag) (.string k.text) (.slice sa sn sc) (.slice ka kn kc)).heap[j]? = w4.heap[j]? := fun j hj => by
    have h3 : w3.heap.size ≤ j := HLW.out j hj
    rw [g1 j (by omega), keepV j (by omega)]
  have bF : Below w.heap.size w (five V (w.heap.size + 1) (.int .i64 k.kind) (.int .i64 k.flag) (.string k.text) (.slice sa sn sc) (.slice ka kn kc)) := ⟨g3.trans bV.os, g4.trans bV.tape, g5.trans bV.output, by rw [g2]; exact bV.size, fun j hj => (g1 j (by omega)).trans (bV.block j hj)⟩
  have hdr : Drawn (five V (w.heap.size + 1) (.int .i64 k.kind) (.int .i64 k.flag) (.string k.text) (.slice sa sn sc) (.slice ka kn kc)) w.heap.size (.slice a2 b.mail.length cap2) b := by
    refine ⟨HC.out.1, ?_⟩
    rw [hV]
    exact (((((((HC.out.2.setLow hW0 _).setLow hW0 _).setLow hW1 _).setLow hW1 _).setLow hW1 _).setLow hW1 _).setLow hW1 _).more (by omega)
  have hX : DrawnBoth w (.returned (.tuple #[.agg #[.int .i64 b.next, .slice a2 b.mail.length cap2], .agg #[.int .i64 k.kind, .int .i64 k.flag, .string k.text, .slice sa sn sc, .slice ka kn kc]])) (five V (w.heap.size + 1) (.int .i64 k.kind) (.int .i64 k.flag) (.string k.text) (.slice sa sn sc) (.slice ka kn kc)) :=
    ⟨b, a2, cap2, k, S, _, rfl, hdr, KeyAt.kept (fun _ h => h) keep5 _ _ HKA.out, HI.out.le (by rw [g2, sizV]; exact Nat.le_refl _), fun j hj => by have h3 : w3.heap.size ≤ j := HLW.out j hj; omega, hF, hn, bF⟩
  rw [hV] at hX
  have HXX := Lib.hid hX
  clear hV keepV g1 g2 g3 g4 g5 sizV bV keep5 bF hdr hX
  go_wp2_with fail
  exact bodyPost_ret (v := .tuple #[.agg #[.int .i64 b.next, .slice a2 b.mail.length cap2], .agg #[.int .i64 k.kind, .int .i64 k.flag, .string k.text, .slice sa sn sc, .slice ka kn kc]]) (by simp [results, Tryd.results13, go_sem, *]) rfl HXX.out
end Go.Proofs.YtlkfaamjbecieaaDoor

/- WALKS: a key is drawn that is sometimes invalid. -/
import Derived.Test.YtlkfaamjbecieaaDoorDrawKey
import Derived.Test.YtlkfaamjbecieaaDoorKSpec
namespace Go.Proofs.YtlkfaamjbecieaaDoor
open Go.RowKit
set_option linter.unusedVariables false

/-- Other fields than the spans and the keys. -/
theorem KeyAt.other {w : World} {S : Nat → Prop} {k : K} {a b : Int} {t : ByteArray} {sv kv : Value} (h : KeyAt w S k (.agg #[.int .i64 a, .int .i64 b, .string t, sv, kv])) (a' b' : Int) (t' : ByteArray) :
    KeyAt w S (.mk a' b' t' k.set k.keys) (.agg #[.int .i64 a', .int .i64 b', .string t', sv, kv]) := by
  rw [KeyAt] at h ⊢
  obtain ⟨sv', x, n, cap, hv, hs, hl, hc, hm, h⟩ := h
  simp only [Value.agg.injEq, Array.mk.injEq, List.cons.injEq, and_true] at hv
  obtain ⟨_, _, _, rfl, rfl⟩ := hv
  exact ⟨_, x, n, cap, rfl, hs, hl, hc, hm, h⟩
theorem nodes_other (k : K) (a' b' : Int) (t' : ByteArray) : (K.mk a' b' t' k.set k.keys).nodes = k.nodes := by rw [K.nodes_eq, K.nodes_eq k]; rfl
theorem Fit.other {k : K} (h : k.Fit) {a' b' : Int} {t' : ByteArray} (ht : t'.size ≤ 1048576) : (K.mk a' b' t' k.set k.keys).Fit := .mk _ ht fun c hc => h.key hc
/-- The cells of a row of keys, as an append asks for them. -/
theorem KeyAt.src {w : World} {S : Nat → Prop} {k : K} {x0 x1 x2 x3 : Value} {a : Option Addr} {n cap : Nat} (h : KeyAt w S k (.agg #[x0, x1, x2, x3, .slice a n cap])) : k.keys.length = n ∧ n ≤ cap ∧ (a = none → cap = 0) ∧ ∃ cs, Src w a n cap cs ∧ Cs w S k.keys cs ∧ ∀ u ∈ cs, u.oneCell' = true := by
  rw [KeyAt] at h
  obtain ⟨sv', a', n', cap', hv, hs, hl, hc, ⟨hm, hnil⟩, h⟩ := h
  simp only [Value.agg.injEq, Array.mk.injEq, List.cons.injEq, and_true, Value.slice.injEq] at hv
  obtain ⟨_, _, _, _, rfl, rfl, rfl⟩ := hv
  refine ⟨hl, hc, hnil, ?_⟩
  by_cases h0 : n = 0
  · subst h0
    have hk : k.keys = [] := List.eq_nil_of_length_eq_zero hl
    rw [hk]
    rcases ha : a with _ | ad
    · exact ⟨[], .inl ⟨rfl, rfl, hnil ha⟩, Cs.nil _ _, fun u hu => by cases hu⟩
    · exact ⟨[], .inr ⟨ad, rfl, fun j u hu => by simp at hu⟩, Cs.nil _ _, fun u hu => by cases hu⟩
  rcases h with h | ⟨b, off, rfl, hb, h⟩
  · exact absurd h h0
  have hex : ∀ j, ∃ u, j < k.keys.length * 5 → w.cell? ⟨b, off + j, none⟩ = some u := by
    intro j
    by_cases hj : j < k.keys.length * 5
    · obtain ⟨c0, c1, c2, c3, c4, e0, e1, e2, e3, e4, hh⟩ := h (j / 5) (by omega)
      have hd : j = j / 5 * 5 + j % 5 := by omega
      have hm5 : j % 5 = 0 ∨ j % 5 = 1 ∨ j % 5 = 2 ∨ j % 5 = 3 ∨ j % 5 = 4 := by omega
      rcases hm5 with e | e | e | e | e
      · exact ⟨c0, fun _ => by rw [hd, e]; exact e0⟩
      · exact ⟨c1, fun _ => by rw [hd, e, ← Nat.add_assoc]; exact e1⟩
      · exact ⟨c2, fun _ => by rw [hd, e, ← Nat.add_assoc]; exact e2⟩
      · exact ⟨c3, fun _ => by rw [hd, e, ← Nat.add_assoc]; exact e3⟩
      · exact ⟨c4, fun _ => by rw [hd, e, ← Nat.add_assoc]; exact e4⟩
    · exact ⟨.nilFunc, fun h => absurd h hj⟩
  obtain ⟨f, hf⟩ : ∃ f : Nat → Value, ∀ j, j < k.keys.length * 5 → w.cell? ⟨b, off + j, none⟩ = some (f j) := ⟨fun j => (hex j).choose, fun j => (hex j).choose_spec⟩
  have hat : ∀ j, j < k.keys.length * 5 → ((List.range (k.keys.length * 5)).map f)[j]? = some (f j) := fun j hj => by simp [hj]
  refine ⟨(List.range (k.keys.length * 5)).map f, .inr ⟨_, rfl, fun j u hu => ?_⟩, ⟨by simp, fun i hi => ?_⟩, fun u hu => ?_⟩
  · rw [addr_add]
    by_cases hj : j < k.keys.length * 5
    · rw [hat j hj] at hu; cases hu; exact hf j hj
    · rw [List.getElem?_eq_none (by simp; omega)] at hu; cases hu
  · obtain ⟨c0, c1, c2, c3, c4, e0, e1, e2, e3, e4, hh⟩ := h i hi
    have q := fun j (hj : j < 5) => hf (i * 5 + j) (by omega)
    have g0 := q 0 (by omega); have g1 := q 1 (by omega); have g2 := q 2 (by omega); have g3 := q 3 (by omega); have g4 := q 4 (by omega)
    rw [Nat.add_zero] at g0
    rw [← Nat.add_assoc] at g1 g2 g3 g4
    rw [e0] at g0; rw [e1] at g1; rw [e2] at g2; rw [e3] at g3; rw [e4] at g4
    refine ⟨c0, c1, c2, c3, c4, ?_, ?_, ?_, ?_, ?_, hh⟩
    · rw [hat _ (by omega)]; exact g0.symm
    · rw [hat _ (by omega)]; exact g1.symm
    · rw [hat _ (by omega)]; exact g2.symm
    · rw [hat _ (by omega)]; exact g3.symm
    · rw [hat _ (by omega)]; exact g4.symm
  · obtain ⟨j, hj, rfl⟩ := List.mem_map.1 hu
    have hj : j < k.keys.length * 5 := by simpa using hj
    obtain ⟨c0, c1, c2, c3, c4, e0, e1, e2, e3, e4, hh⟩ := h (j / 5) (by omega)
    obtain ⟨sa, sn, sc, ka, kn, kc, he, _⟩ := hh.open
    simp only [Value.agg.injEq, Array.mk.injEq, List.cons.injEq, and_true] at he
    obtain ⟨rfl, rfl, rfl, rfl, rfl⟩ := he
    have hd : j = j / 5 * 5 + j % 5 := by omega
    have hfj := hf j hj
    have hm5 : j % 5 = 0 ∨ j % 5 = 1 ∨ j % 5 = 2 ∨ j % 5 = 3 ∨ j % 5 = 4 := by omega
    rcases hm5 with e | e | e | e | e
    · rw [hd, e, Nat.add_zero, e0] at hfj; rw [hd, e, Nat.add_zero, ← Option.some.inj hfj]; rfl
    · rw [hd, e, ← Nat.add_assoc, e1] at hfj; rw [hd, e, ← Option.some.inj hfj]; rfl
    · rw [hd, e, ← Nat.add_assoc, e2] at hfj; rw [hd, e, ← Option.some.inj hfj]; rfl
    · rw [hd, e, ← Nat.add_assoc, e3] at hfj; rw [hd, e, ← Option.some.inj hfj]; rfl
    · rw [hd, e, ← Nat.add_assoc, e4] at hfj; rw [hd, e, ← Option.some.inj hfj]; rfl
theorem grown_put {w a : World} {row : Option Nat} (h : w.grownBy a row) {b : Nat} (hb : w.heap.size ≤ b) (j : Nat) (u : Value) : w.grownBy (a.setCell ⟨b, j, none⟩ u) row :=
  ⟨h.os, h.tape, h.output, by simpa [World.setCell] using h.size, fun k hk hr => (Below.heap_setCell _ _ _ _ (by show k ≠ b; omega)).trans (h.block k hk hr)⟩
theorem len_nodes (k : K) : k.keys.length + 1 ≤ k.nodes := by
  have key : ∀ l : List K, l.length ≤ (l.map K.nodes).sum := by
    intro l
    induction l with
    | nil => simp
    | cons c l ih => have := c.nodes_pos; simp; omega
  rw [K.nodes_eq]
  have := key k.keys
  omega
theorem Cs.length {w : World} {S : Nat → Prop} {ks : List K} {cs : List Value} (h : Cs w S ks cs) : cs.length = ks.length * 5 := h.1
theorem nodes_more (k c : K) (a b : Int) (t : ByteArray) : (K.mk a b t k.set (k.keys ++ [c])).nodes = k.nodes + c.nodes := by rw [K.nodes_eq, K.nodes_eq k]; simp [K.keys]; omega
theorem Fit.more {k c : K} (h : k.Fit) (hc : c.Fit) {a b : Int} {t : ByteArray} (ht : t.size ≤ 1048576) : (K.mk a b t k.set (k.keys ++ [c])).Fit := .mk _ ht fun x hx => by
  rcases List.mem_append.1 hx with hx | hx
  · exact h.key hx
  · simp at hx; subst hx; exact hc
set_option maxRecDepth 8000 in
set_option maxHeartbeats 4000000 in
theorem l91Odd_any (r B : Nat) (hB : B + 2000 ≤ 1000000) (w : World) (h : Rd w r B) :
    Calls Tryd.prog 30 #[.pointer (some ⟨r, 0, none⟩)] w (DrewKey w r (B + 2000) 4) := by
  have hlt := h.lt
  obtain ⟨j0, hj, hy0, hy1, hy2⟩ := info_parts Tryd.infoKey
  obtain ⟨v0, hv0⟩ : ∃ v0, v0 = w.alloc (.cells #[.int .i64 0, .int .i64 0, .string ⟨#[]⟩, .slice none 0 0, .slice none 0 0] 29) := ⟨_, rfl⟩
  have hz0 : v0.heap[w.heap.size]? = some (.cells #[.int .i64 0, .int .i64 0, .string ⟨#[]⟩, .slice none 0 0, .slice none 0 0] 29 (0, 0)) := by rw [hv0]; exact heap_alloc_new w _
  have hR0 : Rd v0 r B := by rw [hv0]; exact h.below ((Below.refl _ _).alloc (Nat.le_refl _) _)
  have hG0 : w.grownBy v0 (some r) := by rw [hv0]; exact World.grownBy_alloc _ _ _
  have HV := Lib.hid hv0
  have hl0 := lt_of_block hz0
  clear hv0 h
  go_enter Tryd.func30, Tryd.ntmps30
  go_wp2_with fail
  rw [← HV.out]
  refine (l91Key_any 3 3 rfl r B _ (by omega) (by rw [show cD 3 = 1890 from rfl]; omega) hR0).mono ?_
  rintro e v1 ⟨k, S, v, rfl, hk, hi, hl, hF, hn, hR, gR⟩
  rw [show cD 3 = 1890 from rfl] at hR
  obtain ⟨sa, sn, sc, ka, kn, kc, rfl, hjunk⟩ := hk.open
  clear hjunk
  have hz1 := (gR.block _ hl0 (by simp; omega)).trans hz0
  have hG1 := grown_trans hG0 gR
  have hl1 := gR.size
  obtain ⟨v2, hv2⟩ : ∃ v2, v2 = v1.alloc (.cells #[.int .i64 k.kind, .int .i64 k.flag, .string k.text, .slice sa sn sc, .slice ka kn kc] 29) := ⟨_, rfl⟩
  have b2 : Below v1.heap.size v1 v2 := by rw [hv2]; exact (Below.refl _ _).alloc (Nat.le_refl _) _
  have hk2 := hk.below hi b2
  have hi2 : Ins S v2 := hi.below b2
  have hR2 := hR.below b2
  have hz2 := (b2.block _ (by omega)).trans hz1
  have hG2 := grown_trans hG1 (grown_of_below (row := some r) b2)
  have hkb : v2.heap[v1.heap.size]? = some (.cells #[.int .i64 k.kind, .int .i64 k.flag, .string k.text, .slice sa sn sc, .slice ka kn kc] 29 (0, 0)) := by rw [hv2]; exact heap_alloc_new v1 _
  have hlow : ∀ j, S j → w.heap.size < j ∧ j ≠ v1.heap.size := fun j hj => ⟨by have := hl j hj; omega, by have := hi.lt hj; omega⟩
  have hrk : r < v1.heap.size := hR.lt
  have HV2 := Lib.hid hv2
  clear hv2 HV hk hi hl hR gR hz0 hR0 hG0 hG1 hz1
  go_wp2_with fail
  rw [← HV2.out]
  clear HV2
  refine (pick_any r (B + 1890) 16 (by omega) (by omega) (by omega) _ hR2).mono ?_
  rintro e v3 ⟨m, rfl, hm, hR, gR⟩
  have hz := (gR.block _ (lt_of_block hz2) (by simp; omega)).trans hz2
  have hkb3 := (gR.block _ (lt_of_block hkb) (by simp; omega)).trans hkb
  have hG := grown_trans hG2 gR
  have hrS : ¬ S r := fun h => by have := (hlow r h).1; omega
  have hk3 := hk2.grown hi2 gR hrS
  have hi3 : Ins S v3 := hi2.le gR.size
  have nk := ne_two2 (show w.heap.size < v1.heap.size by omega)
  clear hz2 hkb hG2 hk2 hi2 hR2 gR b2
  have hm5 : m = 0 ∨ m = 1 ∨ m = 2 ∨ m = 3 ∨ 4 ≤ m := by omega
  have hn2 : k.nodes + 1 ≤ 16 := hn
  clear hn
  rcases hm5 with rfl | rfl | rfl | rfl | hm4
  · have HZ := Lib.hid hz; have HKB := Lib.hid hkb3; have HK := Lib.hid hk3; have HG := Lib.hid hG; have HI := Lib.hid hi3
    clear hz hkb3 hk3 hG hi3
    go_wp2_with fail
    refine (pick_any r (B + 1891) 10 (by omega) (by omega) (by omega) _ hR).mono ?_
    rintro e v4 ⟨p, rfl, hp, hR, gR⟩
    have hz := (gR.block _ (lt_of_block HZ.out) (by simp; omega)).trans HZ.out
    have hkb := (gR.block _ (lt_of_block HKB.out) (by simp; omega)).trans HKB.out
    have hG := grown_trans HG.out gR
    have hk4 := HK.out.grown HI.out gR hrS
    have hi4 : Ins S v4 := HI.out.le gR.size
    have HX : Hid (DrewKey w r (B + 2000) 4 _ _) := DrewKey.done (k := .mk ((p : Int) - 1) k.flag k.text k.set k.keys) (v := v4.setCell ⟨v1.heap.size, 0, none⟩ (.int .i64 ((p : Int) - 1))) (KeyAt.setCell (hk4.other ((p : Int) - 1) k.flag k.text) (fun h => (hlow _ h).2 rfl) _) (hi4.le (by simp [World.setCell])) (fun j hj => (hlow j hj).1) (Fit.other hF hF.text) (by rw [nodes_other]; omega) (hR.keep fun j hj => Below.heap_setCell _ _ _ _ (by show j ≠ v1.heap.size; omega)) (by omega) (grown_put hG (by omega) _ _) hlt (.int .i64 ((p : Int) - 1)) (.int .i64 k.flag) (.string k.text) (.slice sa sn sc) (.slice ka kn kc)
    obtain ⟨z0, z1, z2, z3, z4, y0, y1, y2, y3, y4⟩ := five_cells hz
    obtain ⟨e0, e1, e2, e3, e4, f0, f1, f2, f3, f4⟩ := five_cells hkb
    clear hz hkb hG hk4 hi4 hR gR HZ HKB HK HG HI
    go_wp2_with fail
    exact bodyPost_ret (v := .agg #[.int .i64 ((p : Int) - 1), .int .i64 k.flag, .string k.text, .slice sa sn sc, .slice ka kn kc]) (by simp [results, Tryd.results30, go_sem, *]) rfl HX.out
  · have HZ := Lib.hid hz; have HKB := Lib.hid hkb3; have HK := Lib.hid hk3; have HG := Lib.hid hG; have HI := Lib.hid hi3
    clear hz hkb3 hk3 hG hi3
    go_wp2_with fail
    refine (pick_any r (B + 1891) 32 (by omega) (by omega) (by omega) _ hR).mono ?_
    rintro e v4 ⟨p, rfl, hp, hR, gR⟩
    have hz := (gR.block _ (lt_of_block HZ.out) (by simp; omega)).trans HZ.out
    have hkb := (gR.block _ (lt_of_block HKB.out) (by simp; omega)).trans HKB.out
    have hG := grown_trans HG.out gR
    have hk4 := HK.out.grown HI.out gR hrS
    have hi4 : Ins S v4 := HI.out.le gR.size
    have HX : Hid (DrewKey w r (B + 2000) 4 _ _) := DrewKey.done (k := .mk k.kind (p : Int) k.text k.set k.keys) (v := v4.setCell ⟨v1.heap.size, 1, none⟩ (.int .i64 (p : Int))) (KeyAt.setCell (hk4.other k.kind (p : Int) k.text) (fun h => (hlow _ h).2 rfl) _) (hi4.le (by simp [World.setCell])) (fun j hj => (hlow j hj).1) (Fit.other hF hF.text) (by rw [nodes_other]; omega) (hR.keep fun j hj => Below.heap_setCell _ _ _ _ (by show j ≠ v1.heap.size; omega)) (by omega) (grown_put hG (by omega) _ _) hlt (.int .i64 k.kind) (.int .i64 (p : Int)) (.string k.text) (.slice sa sn sc) (.slice ka kn kc)
    obtain ⟨z0, z1, z2, z3, z4, y0, y1, y2, y3, y4⟩ := five_cells hz
    obtain ⟨e0, e1, e2, e3, e4, f0, f1, f2, f3, f4⟩ := five_cells hkb
    clear hz hkb hG hk4 hi4 hR gR HZ HKB HK HG HI
    go_wp2_with fail
    exact bodyPost_ret (v := .agg #[.int .i64 k.kind, .int .i64 (p : Int), .string k.text, .slice sa sn sc, .slice ka kn kc]) (by simp [results, Tryd.results30, go_sem, *]) rfl HX.out
  · have HX : Hid (DrewKey w r (B + 2000) 4 _ _) := DrewKey.done (k := .mk k.kind k.flag ⟨#[98, 111, 98]⟩ k.set k.keys) (v := v3.setCell ⟨v1.heap.size, 2, none⟩ (.string ⟨#[98, 111, 98]⟩)) (KeyAt.setCell (hk3.other k.kind k.flag ⟨#[98, 111, 98]⟩) (fun h => (hlow _ h).2 rfl) _) (hi3.le (by simp [World.setCell])) (fun j hj => (hlow j hj).1) (Fit.other hF (by decide)) (by rw [nodes_other]; omega) (hR.keep fun j hj => Below.heap_setCell _ _ _ _ (by show j ≠ v1.heap.size; omega)) (by omega) (grown_put hG (by omega) _ _) hlt (.int .i64 k.kind) (.int .i64 k.flag) (.string ⟨#[98, 111, 98]⟩) (.slice sa sn sc) (.slice ka kn kc)
    obtain ⟨z0, z1, z2, z3, z4, y0, y1, y2, y3, y4⟩ := five_cells hz
    obtain ⟨e0, e1, e2, e3, e4, f0, f1, f2, f3, f4⟩ := five_cells hkb3
    clear hz hkb3 hG hk3 hi3 hR
    go_wp2_with fail
    exact bodyPost_ret (v := .agg #[.int .i64 k.kind, .int .i64 k.flag, .string ⟨#[98, 111, 98]⟩, .slice sa sn sc, .slice ka kn kc]) (by simp [results, Tryd.results30, go_sem, *]) rfl HX.out
  · obtain ⟨hkl, hkc, hnil, cs, hsrc, hcs, hone⟩ := hk3.src
    obtain ⟨_, _, _, _, _, _, he, hset, hjunk⟩ := hk3.open
    clear hjunk
    simp only [Value.agg.injEq, Array.mk.injEq, List.cons.injEq, and_true, Value.slice.injEq, true_and] at he
    obtain ⟨⟨rfl, rfl, rfl⟩, rfl, rfl, rfl⟩ := he
    have hlen := len_nodes k
    have hkn16 : kn ≤ 16 := by omega
    clear hlen
    have hb5 : Below v3.heap.size v3 (v3.alloc (.cells #[] 29)) := (Below.refl _ _).alloc (Nat.le_refl _) _
    have hl3 := lt_of_block hkb3
    have hz3 := lt_of_block hz
    have HSR := Lib.hid (hsrc.below hb5); have HONE := Lib.hid hone; have HCS := Lib.hid hcs; have HSET := Lib.hid hset
    have HZ := Lib.hid hz; have HKB := Lib.hid hkb3; have HG := Lib.hid hG; have HI := Lib.hid hi3; have HB5 := Lib.hid hb5; have HKL := Lib.hid hkl
    obtain ⟨e0, e1, e2, e3, e4, f0, f1, f2, f3, f4⟩ := five_cells hkb3
    have x1 : 0 + kn ≤ maxLen := by unfold maxLen; omega
    have x2 : (0 + kn) * 80 ≤ 140737488355328 := by omega
    have x3 : cs.length = kn * 5 := by rw [hcs.length, hkl]
    have X1 := Lib.hid x1; have X2 := Lib.hid x2; have X3 := Lib.hid x3
    clear hz hkb3 hk3 hG hi3 hsrc hone hcs hset hkl hb5 x1 x2 x3 hnil
    go_wp2_with (at_builtin; refine wpList_append_any rfl _ _ 27 rfl v3.heap.size 29 j0 (.agg #[.int .i64 0, .int .i64 0, .string ⟨#[]⟩, .slice none 0 0, .slice none 0 0]) 5 80 Tryd.underlying27 hj hy0 hy1 hy2 rfl (by decide) v3.heap.size 0 0 [] rfl (own_new v3 _ _ _ (Nat.le_refl _)) ka kn kc cs rfl X3.out HSR.out HONE.out X1.out X2.out (by simp) ?_)
    intro g6 cp6 w6 hown6 hgrow6
    have l6 : v3.heap.size + 1 ≤ w6.heap.size := by have := hgrow6.size; simpa using this
    have g6l := row_ge hown6
    have oth6 : ∀ j, j < v3.heap.size → w6.heap[j]? = v3.heap[j]? := fun j hj => (hgrow6.block j (by simp; omega) (by simp; omega)).trans (Below.heap_alloc _ _ _ hj)
    have hkb6 := (oth6 _ hl3).trans HKB.out
    have HO6 := Lib.hid hown6; have HOTH6 := Lib.hid oth6
    have hg6 : w.grownBy w6 (some r) := ⟨hgrow6.os.trans HG.out.os, hgrow6.tape.trans HG.out.tape, hgrow6.output.trans HG.out.output, by have := HG.out.size; omega, fun j hj hr => (oth6 j (by have := HG.out.size; omega)).trans (HG.out.block j hj hr)⟩
    have HG6 := Lib.hid hg6
    have x1 : kn + 1 ≤ maxLen := by unfold maxLen; omega
    have x2 : (kn + 1) * 80 ≤ 140737488355328 := by omega
    have X4 := Lib.hid x1; have X5 := Lib.hid x2
    have b7 : Below w6.heap.size w6 (w6.alloc (.cells #[.int .i64 0, .int .i64 0, .string ⟨#[]⟩, .slice none 0 0, .slice none 0 0] 29)) := (Below.refl _ _).alloc (Nat.le_refl _) _
    have hown7 := World.ownsRow.kept (row := none) hown6 (grown_of_below b7) (by simp [Value.ownBlock])
    have HO7 := Lib.hid hown7
    clear e0 e1 e2 e3 e4 f0 f1 f2 f3 f4
    obtain ⟨e0, e1, e2, e3, e4, f0, f1, f2, f3, f4⟩ := five_cells hkb6
    have HKB6 := Lib.hid hkb6
    clear hown6 hgrow6 oth6 hkb6 hg6 x1 x2 hown7 b7 HSR HKB
    have hsr : Src (w6.alloc (.cells #[.int .i64 0, .int .i64 0, .string ⟨#[]⟩, .slice none 0 0, .slice none 0 0] 29)) (some ⟨w6.heap.size, 0, none⟩) 1 1 [.int .i64 0, .int .i64 0, .string ⟨#[]⟩, .slice none 0 0, .slice none 0 0] := .inr ⟨_, rfl, fun j u h => news5 j u h⟩
    have HSR := Lib.hid hsr
    clear hsr
    go_wp2_with (at_builtin; refine wpList_append_any rfl _ _ 27 rfl v3.heap.size 29 j0 (.agg #[.int .i64 0, .int .i64 0, .string ⟨#[]⟩, .slice none 0 0, .slice none 0 0]) 5 80 Tryd.underlying27 hj hy0 hy1 hy2 rfl (by decide) g6 cp6 kn cs rfl HO7.out (some ⟨w6.heap.size, 0, none⟩) 1 1 [.int .i64 0, .int .i64 0, .string ⟨#[]⟩, .slice none 0 0, .slice none 0 0] rfl rfl HSR.out (one5 _ _ _ _ _ _ _ _ _) X4.out X5.out (by simp; omega) ?_)
    intro g8 cp8 w8 hown8 hgrow8
    have g8l := row_ge hown8
    have l8 : w6.heap.size + 1 ≤ w8.heap.size := by have := hgrow8.size; simpa using this
    have oth8 : ∀ j, j < v3.heap.size → w8.heap[j]? = v3.heap[j]? := fun j hj => (hgrow8.block j (by simp; omega) (by simp; omega)).trans ((Below.heap_alloc _ _ _ (by omega)).trans (HOTH6.out j hj))
    have hkb8 : w8.heap[v1.heap.size]? = some (.cells #[.int .i64 k.kind, .int .i64 k.flag, .string k.text, .slice sa sn sc, .slice ka kn kc] 29 (0, 0)) := (hgrow8.block _ (by simp; omega) (by simp; omega)).trans ((Below.heap_alloc _ _ _ (by omega)).trans HKB6.out)
    have hz8 := (oth8 _ hz3).trans HZ.out
    have hg8 : w.grownBy w8 (some r) := ⟨hgrow8.os.trans HG6.out.os, hgrow8.tape.trans HG6.out.tape, hgrow8.output.trans HG6.out.output, by have := HG6.out.size; omega, fun j hj hr => (oth8 j (by have := HG.out.size; omega)).trans (HG.out.block j hj hr)⟩
    obtain ⟨W, hW⟩ : ∃ W, W = w8.setCell ⟨v1.heap.size, 4, none⟩ (.slice (some ⟨g8, 0, none⟩) (kn + 1) cp8) := ⟨_, rfl⟩
    have set : ∀ j, j ≠ v1.heap.size → W.heap[j]? = w8.heap[j]? := fun j hj => by rw [hW]; exact Below.heap_setCell _ _ _ _ hj
    have wsz : W.heap.size = w8.heap.size := by rw [hW]; simp [World.setCell]
    have kS : ∀ j, S j → W.heap[j]? = v3.heap[j]? := fun j hj => (set j (hlow j hj).2).trans (oth8 j (HI.out.lt hj))
    have hrow : W.ownsRow v3.heap.size 29 5 (.slice (some ⟨g8, 0, none⟩) (kn + 1) cp8) (kn + 1) (cs ++ [.int .i64 0, .int .i64 0, .string ⟨#[]⟩, .slice none 0 0, .slice none 0 0]) := by
      rw [hW]; exact ownsRow_setCell_other hown8 (by simp [Value.ownBlock]; omega) _
    have hzk : KeyAt W S (.mk 0 0 ⟨#[]⟩ [] []) (.agg #[.int .i64 0, .int .i64 0, .string ⟨#[]⟩, .slice none 0 0, .slice none 0 0]) := KeyAt.leaf SetAt.none
    have hcs8 := (HCS.out.kept (fun _ h => h) kS).snoc hzk
    have hk8 : KeyAt W (fun j => S j ∨ j = g8) (.mk k.kind k.flag k.text k.set (k.keys ++ [.mk 0 0 ⟨#[]⟩ [] []])) (.agg #[.int .i64 k.kind, .int .i64 k.flag, .string k.text, .slice sa sn sc, .slice (some ⟨g8, 0, none⟩) (kn + 1) cp8]) :=
      KeyAt.row hrow hcs8 (by rw [List.length_append, HKL.out]; rfl) (by omega) (HSET.out.kept (fun j hj => .inl hj) kS) (fun j hj => .inl hj) (.inr rfl)
    have hi8 : Ins (fun j => S j ∨ j = g8) W := fun j hj => by
      rcases hj with hj | rfl
      · have := HI.out.lt hj; omega
      · exact row_lt hrow
    have HX : Hid (DrewKey w r (B + 2000) 4 _ _) := DrewKey.done hk8 hi8 (fun j hj => by rcases hj with hj | rfl; exact (hlow j hj).1; omega) (Fit.more hF (Fit.leaf (by decide)) hF.text) (by rw [nodes_more, nodes_leaf]; omega) (hR.keep fun j hj => (set j (by omega)).trans (oth8 j (by omega))) (by omega) (by rw [hW]; exact grown_put hg8 (by omega) _ _) hlt (.int .i64 k.kind) (.int .i64 k.flag) (.string k.text) (.slice sa sn sc) (.slice (some ⟨g8, 0, none⟩) (kn + 1) cp8)
    rw [hW] at HX
    obtain ⟨z0, z1, z2, z3, z4, y0, y1, y2, y3, y4⟩ := five_cells hz8
    clear e0 e1 e2 e3 e4 f0 f1 f2 f3 f4
    obtain ⟨e0, e1, e2, e3, e4, f0, f1, f2, f3, f4⟩ := five_cells hkb8
    clear hW set wsz kS hrow hzk hcs8 hk8 hi8 hown8 hgrow8 oth8 hkb8 hz8 hg8 HZ HI HG HG6 HOTH6 HO6 HO7 HSR HCS HSET HONE HKB6 HKL hR HB5
    go_wp2_with fail
    exact bodyPost_ret (v := .agg #[.int .i64 k.kind, .int .i64 k.flag, .string k.text, .slice sa sn sc, .slice (some ⟨g8, 0, none⟩) (kn + 1) cp8]) (by simp [results, Tryd.results30, go_sem, *]) rfl HX.out
  · have HX : Hid (DrewKey w r (B + 2000) 4 _ _) := DrewKey.done hk3 hi3 (fun j hj => (hlow j hj).1) hF (by omega) hR (by omega) hG hlt (.int .i64 k.kind) (.int .i64 k.flag) (.string k.text) (.slice sa sn sc) (.slice ka kn kc)
    obtain ⟨z0, z1, z2, z3, z4, y0, y1, y2, y3, y4⟩ := five_cells hz
    obtain ⟨e0, e1, e2, e3, e4, f0, f1, f2, f3, f4⟩ := five_cells hkb3
    have q0 : ((m : Int) == 0) = false := by simp; omega
    have q1 : ((m : Int) == 1) = false := by simp; omega
    have q2 : ((m : Int) == 2) = false := by simp; omega
    have q3 : ((m : Int) == 3) = false := by simp; omega
    clear hz hkb3 hG hk3 hi3 hR
    go_wp2_with fail
    exact bodyPost_ret (v := .agg #[.int .i64 k.kind, .int .i64 k.flag, .string k.text, .slice sa sn sc, .slice ka kn kc]) (by simp [results, Tryd.results30, go_sem, *]) rfl HX.out
end Go.Proofs.YtlkfaamjbecieaaDoor

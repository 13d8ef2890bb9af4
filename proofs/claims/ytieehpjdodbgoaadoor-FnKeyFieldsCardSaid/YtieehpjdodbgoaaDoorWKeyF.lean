/- WALK: other fields of a key are zero. -/
import Derived.Test.YtieehpjdodbgoaaDoorWKey
import Derived.Deep.RegionHeld3
import Derived.Deep.DeepCutAuto
namespace Go.Proofs.YtieehpjdodbgoaaDoor
open Go.RowKit
set_option linter.unusedVariables false

theorem KeyAt.setOf {w : World} {S : Nat → Prop} {k : K} {x0 x1 x2 sv kv : Value} (h : KeyAt w S k (.agg #[x0, x1, x2, sv, kv])) : SetAt w S sv k.set := by
  rw [KeyAt] at h
  obtain ⟨sv', x, n, cap, hv, hs, _⟩ := h
  simp only [Value.agg.injEq, Array.mk.injEq, List.cons.injEq, and_true] at hv
  obtain ⟨_, _, _, rfl, _⟩ := hv
  exact hs
/-- The key, and the three that were made of it. -/
structure KF (w : World) (S : Nat → Prop) (k : Go.Proofs.YtieehpjdodbgoaaDoor.K) (kd : Int) (sa : Option Addr) (sn sc : Nat) (ka : Option Addr) (kn kc kb xb g cp : Nat) (v : World) : Prop where
  kl : KL w S k #[.int .i64 kd, .int .i64 k.flag, .string k.text, .slice sa sn sc, .slice ka kn kc] kb v
  bx : v.heap[xb]? = some (.cells #[.int .i64 kd, .int .i64 1, .string k.text, .slice sa sn sc, .slice ka kn kc] 26 (0, 0))
  bY : v.heap[xb + 1]? = some (.cells #[.int .i64 kd, .int .i64 k.flag, .string ⟨#[120]⟩, .slice sa sn sc, .slice ka kn kc] 26 (0, 0))
  bz : v.heap[xb + 2]? = some (.cells #[.int .i64 kd, .int .i64 k.flag, .string k.text, .slice sa sn sc, .slice (some ⟨g, 0, none⟩) (kn + 1) cp] 26 (0, 0))
  kz : KeyAt v (fun j => S j ∨ j = g) (.mk kd k.flag k.text k.set (k.keys ++ [.mk 0 0 ⟨#[]⟩ [] []])) (.agg #[.int .i64 kd, .int .i64 k.flag, .string k.text, .slice sa sn sc, .slice (some ⟨g, 0, none⟩) (kn + 1) cp])
  iz : Ins (fun j => S j ∨ j = g) v
theorem KF.below {w v v' : World} {S : Nat → Prop} {k : Go.Proofs.YtieehpjdodbgoaaDoor.K} {kd : Int} {sa : Option Addr} {sn sc : Nat} {ka : Option Addr} {kn kc kb xb g cp : Nat} (h : KF w S k kd sa sn sc ka kn kc kb xb g cp v) (hb : Below v.heap.size v v') : KF w S k kd sa sn sc ka kn kc kb xb g cp v' :=
  ⟨h.kl.below hb, (hb.block _ (lt_of_block h.bx)).trans h.bx, (hb.block _ (lt_of_block h.bY)).trans h.bY, (hb.block _ (lt_of_block h.bz)).trans h.bz, h.kz.below h.iz hb, h.iz.below hb⟩
set_option maxRecDepth 8000 in
set_option maxHeartbeats 4000000 in
theorem fnKeyFields.walk (a : Option Addr) (len cap : Nat) (hl : len ≤ cap) (hm : cap ≤ maxLen) (w : World) (hN : Names w) (hc : CodeAt w a len) :
    Calls Tryd.prog 3 #[.slice a len cap] w fun e w' => e = .returned (.bool true) ∧ Below w.heap.size w w' := by
  obtain ⟨j0, hj, hy0, hy1, hy2⟩ := info_parts Tryd.infoKey
  by_cases hlen : 1048576 < len
  · unfold maxLen at hm
    clear hc hN
    go_enter Tryd.func3, Tryd.ntmps3
    go_wp2_with fail
    go_ret
    exact ⟨rfl, Below.refl _ _⟩
  go_enter Tryd.func3, Tryd.ntmps3
  unfold maxLen at hm
  go_wp2_with fail
  refine (DrawKeyValid_any a len cap hl w hc).mono ?_
  clear hc
  rintro e w1 ⟨k, S, v, rfl, hk, hi, hlow, hF, hn, b1⟩
  obtain ⟨sa, sn, sc, ka, kn, kc, rfl, hset, hsn, hkn, hkc, hkm, hsm⟩ := hk.open
  obtain ⟨kd, hkd⟩ : ∃ kd, k.kind = kd := ⟨_, rfl⟩
  rw [hkd] at hk ⊢
  have HKD := Lib.hid hkd
  obtain ⟨w2, hw2⟩ : ∃ w2, w2 = w1.alloc (.cells #[.int .i64 kd, .int .i64 k.flag, .string k.text, .slice sa sn sc, .slice ka kn kc] 26) := ⟨_, rfl⟩
  have hKL : KL w S k #[.int .i64 kd, .int .i64 k.flag, .string k.text, .slice sa sn sc, .slice ka kn kc] w1.heap.size w2 := by
    have b2 : Below w1.heap.size w1 w2 := by rw [hw2]; exact (Below.refl _ _).alloc (Nat.le_refl _) _
    exact ⟨hk.below hi b2, hi.below b2, by rw [hw2]; exact heap_alloc_new w1 _, fun h => Nat.lt_irrefl _ (hi.lt h), b1.trans (b2.mono b1.size), b1.size⟩
  have HL := Lib.hid hKL; have HW := Lib.hid hw2; have HKN := Lib.hid hkn
  clear hKL hw2 hk hi hlow b1 hset hsn hkn hkd
  go_wp2_with fail
  rw [← HW.out]
  refine (implKeyValid_any k _ S w2 HL.out.key HL.out.ins hF (hN.below HL.out.bel)).mono ?_
  rintro e w3 ⟨rfl, b3⟩
  replace HL := Lib.hid (HL.out.below b3)
  clear b3 HW
  obtain ⟨e0, e1, e2, e3, e4, y0, y1, y2, y3, y4⟩ := five_cells HL.out.box
  have hlt := HL.out.lt
  rcases hok : keyOk k with _ | _
  · have hs := specKeyValid_any k _ S w3 HL.out.key HL.out.ins hF (by omega)
    rw [hok] at hs
    have HS := Lib.hid hs
    clear hok hs
    go_wp2_with fail
    refine HS.out.mono ?_
    rintro e w4 ⟨rfl, b4⟩
    replace HL := Lib.hid (HL.out.below b4)
    clear b4 HS e0 e1 e2 e3 e4 y0 y1 y2 y3 y4
    go_wp2_with fail
    go_ret
    exact ⟨rfl, HL.out.bel⟩
  have hs := specKeyValid_any k _ S w3 HL.out.key HL.out.ins hF (by omega)
  rw [hok] at hs
  have HS := Lib.hid hs; have HOK := Lib.hid hok
  clear hok hs
  go_wp2_with fail
  refine HS.out.mono ?_
  rintro e w4 ⟨rfl, b4⟩
  replace HL := Lib.hid (HL.out.below b4)
  clear b4 HS e0 e1 e2 e3 e4 y0 y1 y2 y3 y4 hlt
  obtain ⟨e0, e1, e2, e3, e4, y0, y1, y2, y3, y4⟩ := five_cells HL.out.box
  have hlt := HL.out.lt
  obtain ⟨hkl, hkc, hnil, cs, hsrc, hcs, hone⟩ := HL.out.key.src
  have hset := HL.out.key.setOf
  clear hnil
  have hkn16 : kn ≤ 32 := by have := len_nodes k; omega
  have HSET := Lib.hid hset; have HCS := Lib.hid hcs; have HONE := Lib.hid hone
  obtain ⟨w5, hw5⟩ : ∃ w5, w5 = ((w4.alloc (.cells #[.int .i64 kd, .int .i64 1, .string k.text, .slice sa sn sc, .slice ka kn kc] 26)).alloc (.cells #[.int .i64 kd, .int .i64 k.flag, .string ⟨#[120]⟩, .slice sa sn sc, .slice ka kn kc] 26)).alloc (.cells #[.int .i64 kd, .int .i64 k.flag, .string k.text, .slice sa sn sc, .slice ka kn kc] 26) := ⟨_, rfl⟩
  have b45 : Below w4.heap.size w4 w5 := by rw [hw5]; go_grown
  have s5 : w5.heap.size = w4.heap.size + 3 := by rw [hw5]; simp
  have hx5 : w5.heap[w4.heap.size]? = some (.cells #[.int .i64 kd, .int .i64 1, .string k.text, .slice sa sn sc, .slice ka kn kc] 26 (0, 0)) := by
    rw [hw5, Below.heap_alloc _ _ _ (by simp; omega), Below.heap_alloc _ _ _ (by simp)]; exact heap_alloc_new w4 _
  have hy5 : w5.heap[w4.heap.size + 1]? = some (.cells #[.int .i64 kd, .int .i64 k.flag, .string ⟨#[120]⟩, .slice sa sn sc, .slice ka kn kc] 26 (0, 0)) := by
    have := heap_alloc_new (w4.alloc (.cells #[.int .i64 kd, .int .i64 1, .string k.text, .slice sa sn sc, .slice ka kn kc] 26)) (.cells #[.int .i64 kd, .int .i64 k.flag, .string ⟨#[120]⟩, .slice sa sn sc, .slice ka kn kc] 26)
    rw [hw5, Below.heap_alloc _ _ _ (by simp)]; simpa using this
  have hz5 : w5.heap[w4.heap.size + 2]? = some (.cells #[.int .i64 kd, .int .i64 k.flag, .string k.text, .slice sa sn sc, .slice ka kn kc] 26 (0, 0)) := by
    have := heap_alloc_new ((w4.alloc (.cells #[.int .i64 kd, .int .i64 1, .string k.text, .slice sa sn sc, .slice ka kn kc] 26)).alloc (.cells #[.int .i64 kd, .int .i64 k.flag, .string ⟨#[120]⟩, .slice sa sn sc, .slice ka kn kc] 26)) (.cells #[.int .i64 kd, .int .i64 k.flag, .string k.text, .slice sa sn sc, .slice ka kn kc] 26)
    rw [hw5]; simpa using this
  have hL5 := HL.out.below b45
  have hb6 : Below w5.heap.size w5 (w5.alloc (.cells #[] 26)) := (Below.refl _ _).alloc (Nat.le_refl _) _
  have HSR := Lib.hid ((hsrc.below b45).below hb6)
  have hownR : (w5.alloc (.cells #[] 26)).ownsRow w5.heap.size 26 5 (.slice (some ⟨w4.heap.size + 3, 0, none⟩) 0 0) 0 [] := by rw [← s5]; exact own_new w5 _ _ _ (Nat.le_refl _)
  have HOR := Lib.hid hownR
  have HW5 := Lib.hid hw5; have HX5 := Lib.hid hx5; have HY5 := Lib.hid hy5; have HZ5 := Lib.hid hz5; have HL5 := Lib.hid hL5; have S5 := Lib.hid s5; have B45 := Lib.hid b45
  have x1 : kn ≤ maxLen := by unfold maxLen; omega
  have x2 : kn * 80 ≤ 140737488355328 := by omega
  have x3 : cs.length = kn * 5 := by rw [hcs.length, hkl]
  have X1 := Lib.hid x1; have X2 := Lib.hid x2; have X3 := Lib.hid x3; have HKL := Lib.hid hkl
  clear hownR hw5 b45 s5 hx5 hy5 hz5 hL5 hb6 hsrc hset hcs hone x1 x2 x3 hkl
  have n1 : w1.heap.size < w4.heap.size + 1 := by omega
  have n2 : w1.heap.size < w4.heap.size + 1 + 1 := by omega
  have n3 : w1.heap.size < w4.heap.size + 1 + 1 + 1 := by omega
  go_wp2_with (at_builtin; rw [← HW5.out]; refine wpList_append_any rfl _ _ 24 rfl w5.heap.size 26 j0 (.agg #[.int .i64 0, .int .i64 0, .string ⟨#[]⟩, .slice none 0 0, .slice none 0 0]) 5 80 Tryd.underlying24 hj hy0 hy1 hy2 rfl (by decide) (w4.heap.size + 3) 0 0 [] rfl HOR.out ka kn kc cs rfl X3.out HSR.out HONE.out (by rw [Nat.zero_add]; exact X1.out) (by rw [Nat.zero_add]; exact X2.out) (by simp) ?_)
  intro g6 cp6 w6 hown6 hgrow6
  have s5 := S5.out
  have l6 : w5.heap.size + 1 ≤ w6.heap.size := by have := hgrow6.size; simpa using this
  have g6l := row_ge hown6
  have oth6 : ∀ j, j < w5.heap.size → w6.heap[j]? = w5.heap[j]? := fun j hj => (hgrow6.block j (by simp; omega) (by simp; omega)).trans (Below.heap_alloc _ _ _ hj)
  have bel6 : Below w5.heap.size w5 w6 := ⟨hgrow6.os, hgrow6.tape, hgrow6.output, by omega, oth6⟩
  have hz6 := (oth6 _ (by omega)).trans HZ5.out
  have b7 : Below w6.heap.size w6 (w6.alloc (.cells #[.int .i64 0, .int .i64 0, .string ⟨#[]⟩, .slice none 0 0, .slice none 0 0] 26)) := (Below.refl _ _).alloc (Nat.le_refl _) _
  have hown7 := World.ownsRow.kept (row := none) hown6 (grown_of_below b7) (by simp [Value.ownBlock])
  have HO7 := Lib.hid hown7
  have x1 : kn + 1 ≤ maxLen := by unfold maxLen; omega
  have x2 : (kn + 1) * 80 ≤ 140737488355328 := by omega
  have X4 := Lib.hid x1; have X5 := Lib.hid x2
  have hsr : Src (w6.alloc (.cells #[.int .i64 0, .int .i64 0, .string ⟨#[]⟩, .slice none 0 0, .slice none 0 0] 26)) (some ⟨w6.heap.size, 0, none⟩) 1 1 [.int .i64 0, .int .i64 0, .string ⟨#[]⟩, .slice none 0 0, .slice none 0 0] := .inr ⟨_, rfl, fun j u h => news5 j u h⟩
  have HSR2 := Lib.hid hsr
  have BEL6 := Lib.hid bel6; have HZ6 := Lib.hid hz6
  have l6' : w5.heap.size ≤ w6.heap.size + 1 := by omega
  clear hown6 hgrow6 oth6 bel6 hz6 b7 hown7 x1 x2 hsr HSR HOR e0 e1 e2 e3 e4 y0 y1 y2 y3 y4 n1 n2 n3 s5
  go_wp2_with (at_builtin; refine wpList_append_any rfl _ _ 24 rfl w5.heap.size 26 j0 (.agg #[.int .i64 0, .int .i64 0, .string ⟨#[]⟩, .slice none 0 0, .slice none 0 0]) 5 80 Tryd.underlying24 hj hy0 hy1 hy2 rfl (by decide) g6 cp6 kn cs rfl HO7.out (some ⟨w6.heap.size, 0, none⟩) 1 1 [.int .i64 0, .int .i64 0, .string ⟨#[]⟩, .slice none 0 0, .slice none 0 0] rfl rfl HSR2.out (one5 _ _ _ _ _ _ _ _ _) X4.out X5.out (by simpa using l6') ?_)
  intro g8 cp8 w8 hown8 hgrow8
  have s5 := S5.out
  have g8l := row_ge hown8
  have l8 : w6.heap.size + 1 ≤ w8.heap.size := by have := hgrow8.size; simpa using this
  have bel8 : Below w5.heap.size w5 w8 := ⟨hgrow8.os.trans BEL6.out.os, hgrow8.tape.trans BEL6.out.tape, hgrow8.output.trans BEL6.out.output, by omega, fun j hj => (hgrow8.block j (by simp; omega) (by simp; omega)).trans ((Below.heap_alloc _ _ _ (by omega)).trans (BEL6.out.block j hj))⟩
  have hz8 := (bel8.block _ (by omega)).trans HZ5.out
  have hL8 := HL5.out.below bel8
  obtain ⟨W, hW⟩ : ∃ W, W = w8.setCell ⟨w4.heap.size + 2, 4, none⟩ (.slice (some ⟨g8, 0, none⟩) (kn + 1) cp8) := ⟨_, rfl⟩
  have set : ∀ j, j ≠ w4.heap.size + 2 → W.heap[j]? = w8.heap[j]? := fun j hj => by rw [hW]; exact Below.heap_setCell _ _ _ _ hj
  have wsz : W.heap.size = w8.heap.size := by rw [hW]; simp [World.setCell]
  have hSlt : ∀ j, S j → j < w4.heap.size := fun j hj => HL.out.ins.lt hj
  have kS : ∀ j, S j → W.heap[j]? = w4.heap[j]? := fun j hj => (set j (by have := hSlt j hj; omega)).trans ((bel8.block j (by have := hSlt j hj; omega)).trans (B45.out.block j (hSlt j hj)))
  have hrow : W.ownsRow w5.heap.size 26 5 (.slice (some ⟨g8, 0, none⟩) (kn + 1) cp8) (kn + 1) (cs ++ [.int .i64 0, .int .i64 0, .string ⟨#[]⟩, .slice none 0 0, .slice none 0 0]) := by
    rw [hW]; exact ownsRow_setCell_other hown8 (by simp [Value.ownBlock]; omega) _
  have hzk : KeyAt W S (.mk 0 0 ⟨#[]⟩ [] []) (.agg #[.int .i64 0, .int .i64 0, .string ⟨#[]⟩, .slice none 0 0, .slice none 0 0]) := KeyAt.leaf SetAt.none
  have hcs8 := (HCS.out.kept (fun _ h => h) kS).snoc hzk
  have hkz : KeyAt W (fun j => S j ∨ j = g8) (.mk kd k.flag k.text k.set (k.keys ++ [.mk 0 0 ⟨#[]⟩ [] []])) (.agg #[.int .i64 kd, .int .i64 k.flag, .string k.text, .slice sa sn sc, .slice (some ⟨g8, 0, none⟩) (kn + 1) cp8]) :=
    KeyAt.row hrow hcs8 (by rw [List.length_append, HKL.out]; rfl) (by omega) (HSET.out.kept (fun j hj => .inl hj) kS) (fun j hj => .inl hj) (.inr rfl)
  have hiz : Ins (fun j => S j ∨ j = g8) W := fun j hj => by
    rcases hj with hj | rfl
    · have := hSlt j hj; omega
    · exact row_lt hrow
  have hKF : KF w S k kd sa sn sc ka kn kc w1.heap.size w4.heap.size g8 cp8 W := by
    refine ⟨⟨KeyAt.kept (fun _ h => h) kS _ _ HL.out.key, fun j hj => by have := hSlt j hj; omega, ?_, HL.out.nS, ?_, HL.out.lk⟩, ?_, ?_, ?_, hkz, hiz⟩
    · exact (set _ (by omega)).trans ((bel8.block _ (by omega)).trans HL5.out.box)
    · have hb := hL8.bel
      exact ⟨by rw [hW]; exact hb.os, by rw [hW]; exact hb.tape, by rw [hW]; exact hb.output, by rw [wsz]; exact hb.size, fun j hj => (set j (by have := HL.out.bel.size; omega)).trans (hb.block j hj)⟩
    · exact (set _ (by omega)).trans ((bel8.block _ (by omega)).trans HX5.out)
    · exact (set _ (by omega)).trans ((bel8.block _ (by omega)).trans HY5.out)
    · rw [hW]; exact box_set4 hz8
  have hcx : ∀ b, decide (kd = 1) = b → ∀ V : World, KF w S k kd sa sn sc ka kn kc w1.heap.size w4.heap.size g8 cp8 V → Calls Tryd.prog 9 #[.agg #[.int .i64 kd, .int .i64 1, .string k.text, .slice sa sn sc, .slice ka kn kc]] V fun e w' => e = .returned (.bool b) ∧ Below V.heap.size V w' := fun b hb V hV => by
    have h := implKeyValid_any (.mk kd 1 k.text k.set k.keys) _ S V (hV.kl.key.other kd 1 k.text) hV.kl.ins (Fit.other hF hF.text) (hN.below hV.kl.bel)
    have hk := keyOk_flag HOK.out
    rw [HKD.out] at hk
    rw [hk, hb] at h; exact h
  have hcy : ∀ b, decide (kd = 2) = b → ∀ V : World, KF w S k kd sa sn sc ka kn kc w1.heap.size w4.heap.size g8 cp8 V → Calls Tryd.prog 9 #[.agg #[.int .i64 kd, .int .i64 k.flag, .string ⟨#[120]⟩, .slice sa sn sc, .slice ka kn kc]] V fun e w' => e = .returned (.bool b) ∧ Below V.heap.size V w' := fun b hb V hV => by
    have h := implKeyValid_any (.mk kd k.flag ⟨#[120]⟩ k.set k.keys) _ S V (hV.kl.key.other kd k.flag ⟨#[120]⟩) hV.kl.ins (Fit.other hF (by decide)) (hN.below hV.kl.bel)
    have hk := keyOk_text HOK.out
    rw [HKD.out] at hk
    rw [hk, hb] at h; exact h
  have hcz : ∀ V : World, KF w S k kd sa sn sc ka kn kc w1.heap.size w4.heap.size g8 cp8 V → Calls Tryd.prog 9 #[.agg #[.int .i64 kd, .int .i64 k.flag, .string k.text, .slice sa sn sc, .slice (some ⟨g8, 0, none⟩) (kn + 1) cp8]] V fun e w' => e = .returned (.bool false) ∧ Below V.heap.size V w' := fun V hV => by
    have h := implKeyValid_any (.mk kd k.flag k.text k.set (k.keys ++ [.mk 0 0 ⟨#[]⟩ [] []])) _ _ V hV.kz hV.iz (Fit.more hF (Fit.leaf (by decide)) hF.text) (hN.below hV.kl.bel)
    have hk := keyOk_more (c := .mk 0 0 ⟨#[]⟩ [] []) HOK.out
    rw [HKD.out] at hk
    rw [hk] at h; exact h
  rw [hW] at hKF
  have HF0 := Lib.hid hKF; have HCX := Lib.hid hcx; have HCY := Lib.hid hcy; have HCZ := Lib.hid hcz
  obtain ⟨z0, z1, z2, z3, z4, f0, f1, f2, f3, f4⟩ := five_cells hz8
  have hzl := lt_of_block hz8
  clear hW set wsz hSlt kS hrow hzk hcs8 hkz hiz hKF hcx hcy hcz hL8 bel8 hown8 hgrow8 HO7 HSR2 BEL6 HZ6 HL HL5 HX5 HY5 HZ5 HCS HSET HONE X1 X2 X3 X4 X5 B45 HW5 hz8 l6 g6l l6' s5 HKL HKN
  go_upto_region 14 with fail
  obtain ⟨V0, hV⟩ : ∃ V0, V0 = w8.setCell ⟨w4.heap.size + 2, 4, none⟩ (.slice (some ⟨g8, 0, none⟩) (kn + 1) cp8) := ⟨_, rfl⟩
  rw [← hV] at HF0 ⊢
  clear hV z0 z1 z2 z3 z4 f0 f1 f2 f3 f4 hzl
  by_cases k1 : kd = 1
  · have HX1 := Lib.hid (HCX.out true (decide_eq_true k1)); have HY1 := Lib.hid (HCY.out false (decide_eq_false (by omega))); have HZ1 := Lib.hid HCZ.out
    clear HCX HCY HCZ
    subst k1
    obtain ⟨p0, p1, p2, p3, p4, _⟩ := five_cells HF0.out.bx
    obtain ⟨q0, q1, q2, q3, q4, _⟩ := five_cells HF0.out.bY
    obtain ⟨z0, z1, z2, z3, z4, _⟩ := five_cells HF0.out.bz
    obtain ⟨k0, _⟩ := five_cells HF0.out.kl.box
    go_region_held3 (fun W => (W.cell? ⟨w4.heap.size, 0, none⟩ = some (.int .i64 1) ∧ W.cell? ⟨w4.heap.size, 1, none⟩ = some (.int .i64 1) ∧ W.cell? ⟨w4.heap.size, 2, none⟩ = some (.string k.text) ∧ W.cell? ⟨w4.heap.size, 3, none⟩ = some (.slice sa sn sc) ∧ W.cell? ⟨w4.heap.size, 4, none⟩ = some (.slice ka kn kc)) ∧ (W.cell? ⟨w4.heap.size + 1, 0, none⟩ = some (.int .i64 1) ∧ W.cell? ⟨w4.heap.size + 1, 1, none⟩ = some (.int .i64 k.flag) ∧ W.cell? ⟨w4.heap.size + 1, 2, none⟩ = some (.string ⟨#[120]⟩) ∧ W.cell? ⟨w4.heap.size + 1, 3, none⟩ = some (.slice sa sn sc) ∧ W.cell? ⟨w4.heap.size + 1, 4, none⟩ = some (.slice ka kn kc)) ∧ (W.cell? ⟨w4.heap.size + 2, 0, none⟩ = some (.int .i64 1) ∧ W.cell? ⟨w4.heap.size + 2, 1, none⟩ = some (.int .i64 k.flag) ∧ W.cell? ⟨w4.heap.size + 2, 2, none⟩ = some (.string k.text) ∧ W.cell? ⟨w4.heap.size + 2, 3, none⟩ = some (.slice sa sn sc) ∧ W.cell? ⟨w4.heap.size + 2, 4, none⟩ = some (.slice (some ⟨g8, 0, none⟩) (kn + 1) cp8)) ∧ W.cell? ⟨w1.heap.size, 0, none⟩ = some (.int .i64 1)) (first | exact ⟨⟨p0, p1, p2, p3, p4⟩, ⟨q0, q1, q2, q3, q4⟩, ⟨z0, z1, z2, z3, z4⟩, k0⟩ | (go_keep; done))
      (first
      | (go_at_call 9; (with_reducible refine (HX1.out _ ?_).mono ?_); (focus (refine KF.below HF0.out ?_; go_grown; done)); rintro e v1 ⟨rfl, q⟩; (refine kv_intro (KF.below (KF.below HF0.out ?_) q) ?_; (focus (go_grown; done)); intro hF1); clear p0 p1 p2 p3 p4 q0 q1 q2 q3 q4 z0 z1 z2 z3 z4 k0; obtain ⟨p0, p1, p2, p3, p4, _⟩ := five_cells hF1.bx; obtain ⟨q0, q1, q2, q3, q4, _⟩ := five_cells hF1.bY; obtain ⟨z0, z1, z2, z3, z4, _⟩ := five_cells hF1.bz; obtain ⟨k0, _⟩ := five_cells hF1.kl.box; have HF1 := Lib.hid hF1; clear hF1 q)
      | (go_at_call 9; (with_reducible refine (HY1.out _ ?_).mono ?_); (focus (refine KF.below HF1.out ?_; go_grown; done)); rintro e v2 ⟨rfl, q⟩; (refine kv_intro (KF.below (KF.below HF1.out ?_) q) ?_; (focus (go_grown; done)); intro hF1); clear p0 p1 p2 p3 p4 q0 q1 q2 q3 q4 z0 z1 z2 z3 z4 k0; obtain ⟨p0, p1, p2, p3, p4, _⟩ := five_cells hF1.bx; obtain ⟨q0, q1, q2, q3, q4, _⟩ := five_cells hF1.bY; obtain ⟨z0, z1, z2, z3, z4, _⟩ := five_cells hF1.bz; obtain ⟨k0, _⟩ := five_cells hF1.kl.box; have HF2 := Lib.hid hF1; clear hF1 q)
      | (go_at_call 9; (with_reducible refine (HZ1.out _ ?_).mono ?_); (focus (refine KF.below HF2.out ?_; go_grown; done)); rintro e v3 ⟨rfl, q⟩; (refine kv_intro (KF.below (KF.below HF2.out ?_) q) ?_; (focus (go_grown; done)); intro hF1); clear p0 p1 p2 p3 p4 q0 q1 q2 q3 q4 z0 z1 z2 z3 z4 k0; obtain ⟨p0, p1, p2, p3, p4, _⟩ := five_cells hF1.bx; obtain ⟨q0, q1, q2, q3, q4, _⟩ := five_cells hF1.bY; obtain ⟨z0, z1, z2, z3, z4, _⟩ := five_cells hF1.bz; obtain ⟨k0, _⟩ := five_cells hF1.kl.box; have HF3 := Lib.hid hF1; clear hF1 q))
    all_goals
      go_wp2_with fail
      go_ret
      refine ⟨rfl, ?_⟩
      first | (refine KL.bel (KF.kl (KF.below HF3.out ?_)); go_grown; done)
  by_cases k2 : kd = 2
  · have HX1 := Lib.hid (HCX.out false (decide_eq_false k1)); have HY1 := Lib.hid (HCY.out true (decide_eq_true k2)); have HZ1 := Lib.hid HCZ.out
    clear HCX HCY HCZ k1
    subst k2
    obtain ⟨p0, p1, p2, p3, p4, _⟩ := five_cells HF0.out.bx
    obtain ⟨q0, q1, q2, q3, q4, _⟩ := five_cells HF0.out.bY
    obtain ⟨z0, z1, z2, z3, z4, _⟩ := five_cells HF0.out.bz
    obtain ⟨k0, _⟩ := five_cells HF0.out.kl.box
    go_region_held3 (fun W => (W.cell? ⟨w4.heap.size, 0, none⟩ = some (.int .i64 2) ∧ W.cell? ⟨w4.heap.size, 1, none⟩ = some (.int .i64 1) ∧ W.cell? ⟨w4.heap.size, 2, none⟩ = some (.string k.text) ∧ W.cell? ⟨w4.heap.size, 3, none⟩ = some (.slice sa sn sc) ∧ W.cell? ⟨w4.heap.size, 4, none⟩ = some (.slice ka kn kc)) ∧ (W.cell? ⟨w4.heap.size + 1, 0, none⟩ = some (.int .i64 2) ∧ W.cell? ⟨w4.heap.size + 1, 1, none⟩ = some (.int .i64 k.flag) ∧ W.cell? ⟨w4.heap.size + 1, 2, none⟩ = some (.string ⟨#[120]⟩) ∧ W.cell? ⟨w4.heap.size + 1, 3, none⟩ = some (.slice sa sn sc) ∧ W.cell? ⟨w4.heap.size + 1, 4, none⟩ = some (.slice ka kn kc)) ∧ (W.cell? ⟨w4.heap.size + 2, 0, none⟩ = some (.int .i64 2) ∧ W.cell? ⟨w4.heap.size + 2, 1, none⟩ = some (.int .i64 k.flag) ∧ W.cell? ⟨w4.heap.size + 2, 2, none⟩ = some (.string k.text) ∧ W.cell? ⟨w4.heap.size + 2, 3, none⟩ = some (.slice sa sn sc) ∧ W.cell? ⟨w4.heap.size + 2, 4, none⟩ = some (.slice (some ⟨g8, 0, none⟩) (kn + 1) cp8)) ∧ W.cell? ⟨w1.heap.size, 0, none⟩ = some (.int .i64 2)) (first | exact ⟨⟨p0, p1, p2, p3, p4⟩, ⟨q0, q1, q2, q3, q4⟩, ⟨z0, z1, z2, z3, z4⟩, k0⟩ | (go_keep; done))
      (first
      | (go_at_call 9; (with_reducible refine (HX1.out _ ?_).mono ?_); (focus (refine KF.below HF0.out ?_; go_grown; done)); rintro e v1 ⟨rfl, q⟩; (refine kv_intro (KF.below (KF.below HF0.out ?_) q) ?_; (focus (go_grown; done)); intro hF1); clear p0 p1 p2 p3 p4 q0 q1 q2 q3 q4 z0 z1 z2 z3 z4 k0; obtain ⟨p0, p1, p2, p3, p4, _⟩ := five_cells hF1.bx; obtain ⟨q0, q1, q2, q3, q4, _⟩ := five_cells hF1.bY; obtain ⟨z0, z1, z2, z3, z4, _⟩ := five_cells hF1.bz; obtain ⟨k0, _⟩ := five_cells hF1.kl.box; have HF1 := Lib.hid hF1; clear hF1 q)
      | (go_at_call 9; (with_reducible refine (HY1.out _ ?_).mono ?_); (focus (refine KF.below HF1.out ?_; go_grown; done)); rintro e v2 ⟨rfl, q⟩; (refine kv_intro (KF.below (KF.below HF1.out ?_) q) ?_; (focus (go_grown; done)); intro hF1); clear p0 p1 p2 p3 p4 q0 q1 q2 q3 q4 z0 z1 z2 z3 z4 k0; obtain ⟨p0, p1, p2, p3, p4, _⟩ := five_cells hF1.bx; obtain ⟨q0, q1, q2, q3, q4, _⟩ := five_cells hF1.bY; obtain ⟨z0, z1, z2, z3, z4, _⟩ := five_cells hF1.bz; obtain ⟨k0, _⟩ := five_cells hF1.kl.box; have HF2 := Lib.hid hF1; clear hF1 q)
      | (go_at_call 9; (with_reducible refine (HZ1.out _ ?_).mono ?_); (focus (refine KF.below HF2.out ?_; go_grown; done)); rintro e v3 ⟨rfl, q⟩; (refine kv_intro (KF.below (KF.below HF2.out ?_) q) ?_; (focus (go_grown; done)); intro hF1); clear p0 p1 p2 p3 p4 q0 q1 q2 q3 q4 z0 z1 z2 z3 z4 k0; obtain ⟨p0, p1, p2, p3, p4, _⟩ := five_cells hF1.bx; obtain ⟨q0, q1, q2, q3, q4, _⟩ := five_cells hF1.bY; obtain ⟨z0, z1, z2, z3, z4, _⟩ := five_cells hF1.bz; obtain ⟨k0, _⟩ := five_cells hF1.kl.box; have HF3 := Lib.hid hF1; clear hF1 q))
    all_goals
      go_wp2_with fail
      go_ret
      refine ⟨rfl, ?_⟩
      first | (refine KL.bel (KF.kl (KF.below HF3.out ?_)); go_grown; done)
  · have HX1 := Lib.hid (HCX.out false (decide_eq_false k1)); have HY1 := Lib.hid (HCY.out false (decide_eq_false k2)); have HZ1 := Lib.hid HCZ.out
    have x5 : (kd == 1) = false := beq_eq_false_iff_ne.2 k1
    have x6 : (kd == 2) = false := beq_eq_false_iff_ne.2 k2
    clear HCX HCY HCZ k1 k2
    obtain ⟨p0, p1, p2, p3, p4, _⟩ := five_cells HF0.out.bx
    obtain ⟨q0, q1, q2, q3, q4, _⟩ := five_cells HF0.out.bY
    obtain ⟨z0, z1, z2, z3, z4, _⟩ := five_cells HF0.out.bz
    obtain ⟨k0, _⟩ := five_cells HF0.out.kl.box
    go_region_held3 (fun W => (W.cell? ⟨w4.heap.size, 0, none⟩ = some (.int .i64 kd) ∧ W.cell? ⟨w4.heap.size, 1, none⟩ = some (.int .i64 1) ∧ W.cell? ⟨w4.heap.size, 2, none⟩ = some (.string k.text) ∧ W.cell? ⟨w4.heap.size, 3, none⟩ = some (.slice sa sn sc) ∧ W.cell? ⟨w4.heap.size, 4, none⟩ = some (.slice ka kn kc)) ∧ (W.cell? ⟨w4.heap.size + 1, 0, none⟩ = some (.int .i64 kd) ∧ W.cell? ⟨w4.heap.size + 1, 1, none⟩ = some (.int .i64 k.flag) ∧ W.cell? ⟨w4.heap.size + 1, 2, none⟩ = some (.string ⟨#[120]⟩) ∧ W.cell? ⟨w4.heap.size + 1, 3, none⟩ = some (.slice sa sn sc) ∧ W.cell? ⟨w4.heap.size + 1, 4, none⟩ = some (.slice ka kn kc)) ∧ (W.cell? ⟨w4.heap.size + 2, 0, none⟩ = some (.int .i64 kd) ∧ W.cell? ⟨w4.heap.size + 2, 1, none⟩ = some (.int .i64 k.flag) ∧ W.cell? ⟨w4.heap.size + 2, 2, none⟩ = some (.string k.text) ∧ W.cell? ⟨w4.heap.size + 2, 3, none⟩ = some (.slice sa sn sc) ∧ W.cell? ⟨w4.heap.size + 2, 4, none⟩ = some (.slice (some ⟨g8, 0, none⟩) (kn + 1) cp8)) ∧ W.cell? ⟨w1.heap.size, 0, none⟩ = some (.int .i64 kd)) (first | exact ⟨⟨p0, p1, p2, p3, p4⟩, ⟨q0, q1, q2, q3, q4⟩, ⟨z0, z1, z2, z3, z4⟩, k0⟩ | (go_keep; done))
      (first
      | (go_at_call 9; (with_reducible refine (HX1.out _ ?_).mono ?_); (focus (refine KF.below HF0.out ?_; go_grown; done)); rintro e v1 ⟨rfl, q⟩; (refine kv_intro (KF.below (KF.below HF0.out ?_) q) ?_; (focus (go_grown; done)); intro hF1); clear p0 p1 p2 p3 p4 q0 q1 q2 q3 q4 z0 z1 z2 z3 z4 k0; obtain ⟨p0, p1, p2, p3, p4, _⟩ := five_cells hF1.bx; obtain ⟨q0, q1, q2, q3, q4, _⟩ := five_cells hF1.bY; obtain ⟨z0, z1, z2, z3, z4, _⟩ := five_cells hF1.bz; obtain ⟨k0, _⟩ := five_cells hF1.kl.box; have HF1 := Lib.hid hF1; clear hF1 q)
      | (go_at_call 9; (with_reducible refine (HY1.out _ ?_).mono ?_); (focus (refine KF.below HF1.out ?_; go_grown; done)); rintro e v2 ⟨rfl, q⟩; (refine kv_intro (KF.below (KF.below HF1.out ?_) q) ?_; (focus (go_grown; done)); intro hF1); clear p0 p1 p2 p3 p4 q0 q1 q2 q3 q4 z0 z1 z2 z3 z4 k0; obtain ⟨p0, p1, p2, p3, p4, _⟩ := five_cells hF1.bx; obtain ⟨q0, q1, q2, q3, q4, _⟩ := five_cells hF1.bY; obtain ⟨z0, z1, z2, z3, z4, _⟩ := five_cells hF1.bz; obtain ⟨k0, _⟩ := five_cells hF1.kl.box; have HF2 := Lib.hid hF1; clear hF1 q)
      | (go_at_call 9; (with_reducible refine (HZ1.out _ ?_).mono ?_); (focus (refine KF.below HF2.out ?_; go_grown; done)); rintro e v3 ⟨rfl, q⟩; (refine kv_intro (KF.below (KF.below HF2.out ?_) q) ?_; (focus (go_grown; done)); intro hF1); clear p0 p1 p2 p3 p4 q0 q1 q2 q3 q4 z0 z1 z2 z3 z4 k0; obtain ⟨p0, p1, p2, p3, p4, _⟩ := five_cells hF1.bx; obtain ⟨q0, q1, q2, q3, q4, _⟩ := five_cells hF1.bY; obtain ⟨z0, z1, z2, z3, z4, _⟩ := five_cells hF1.bz; obtain ⟨k0, _⟩ := five_cells hF1.kl.box; have HF3 := Lib.hid hF1; clear hF1 q))
    all_goals
      go_wp2_with fail
      go_ret
      refine ⟨rfl, ?_⟩
      first | (refine KL.bel (KF.kl (KF.below HF3.out ?_)); go_grown; done)
end Go.Proofs.YtieehpjdodbgoaaDoor

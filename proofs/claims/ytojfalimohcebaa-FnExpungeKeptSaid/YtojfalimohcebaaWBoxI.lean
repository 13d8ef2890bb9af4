/- WALKS: all marks of deletion are taken away; no places; places past the end; places twice. -/
import Derived.Test.YtojfalimohcebaaPExpunge
import Derived.Test.YtojfalimohcebaaPFlags
import Derived.Test.YtojfalimohcebaaBoxCell
import Derived.Test.YtojfalimohcebaaFlLaws
import Derived.Test.YtojfalimohcebaaUids
import Derived.Test.YtojfalimohcebaaWBoxF
import Derived.Test.YtojfalimohcebaaPlaces
import Derived.IntWalk
namespace Go.Proofs.Ytojfalimohcebaa
open Go.RowKit
set_option linter.unusedVariables false

theorem upList_asc (n : Nat) : numsOk n (upList n) = true := upTo_asc n n 0 (by omega)
theorem upList_mem {n i : Nat} (h : i < n) : ((i : Int) + 1) ∈ upList n := by
  unfold upList
  rw [List.mem_map]
  exact ⟨i + 1, by rw [List.mem_range'_1]; omega, by simp⟩
theorem del_off : ∀ f, f < 32 → (f &&& 23) / 8 % 2 = 0 := by decide +kernel
theorem kept_all {b : B} (h : bok b = true) : ∃ K : B, flagsTo b (upList b.mail.length) (-1) 8 = (K, true) ∧ K.mail.length = b.mail.length ∧ expunge K = (K, []) := by
  have hps := upList_asc b.mail.length
  have hb := flagsTo_bok (how := -1) (o := 8) h hps rfl rfl
  refine ⟨⟨b.next, flagAll (-1) 8 b.mail (upList b.mail.length)⟩, ?_, flagAll_len _ _ _ _, ?_⟩
  · unfold flagsTo
    rw [if_pos (by rw [h, hps]; rfl)]
  · rw [expunge_yes hb, exTo_none]
    intro m hm
    dsimp only at hm
    obtain ⟨i, hi⟩ := List.mem_iff_getElem?.1 hm
    have hlt : i < b.mail.length := by
      obtain ⟨h1, _⟩ := List.getElem?_eq_some_iff.1 hi
      rw [flagAll_len] at h1; exact h1
    have hbi := List.getElem?_eq_getElem hlt
    have hg := flagAll_get (-1) 8 (upList b.mail.length) b.mail 0 b.mail.length (Int.le_refl _) hps i _ hbi
    rw [hi, if_pos (upList_mem hlt)] at hg
    have hmk := (bok_facts h).1 _ (List.getElem_mem hlt)
    have hf : fok (b.mail[i]).flags = true := by simp [mok] at hmk; exact hmk.1.2
    obtain ⟨f1, f2⟩ := (fok_iff _).1 hf
    injection hg with hg
    rw [hg]
    have e : changed (b.mail[i]).flags (-1) 8 = (((b.mail[i]).flags.toNat &&& 23 : Nat) : Int) := by
      unfold changed; rw [if_pos (by rw [hf]; rfl)]; rfl
    show decide ((changed (b.mail[i]).flags (-1) 8).toNat / 8 % 2 = 1) = false
    rw [e, Int.toNat_natCast, del_off _ (by omega)]
    rfl
set_option maxHeartbeats 1000000 in
theorem fnExpungeKept.walk (a : Option Addr) (len cap : Nat) (hl : len ≤ cap) (hm : cap ≤ maxLen) (w : World) (hc : CodeAt w a len) :
    Calls Try.prog 7 #[.slice a len cap] w fun e w' => e = .returned (.bool true) ∧ Below w.heap.size w w' := by
  unfold maxLen at hm
  by_cases h1 : 1048576 < len
  · go_enter Try.func7, Try.ntmps7
    go_wp2_with fail
    all_goals go_ret
    all_goals exact ⟨rfl, Below.refl _ _⟩
  go_enter Try.func7, Try.ntmps7
  go_wp2_with fail
  refine (DrawBoxExpunge_any a len cap hl w hc).mono ?_
  clear hc
  rintro e w1 ⟨b, a1, cap1, rfl, hb, b1⟩
  have hl10 := hb.1.2.2
  obtain ⟨wx, hwx, X, qx, sx⟩ := new_box hb.2 (by omega)
  have bel := b1.trans (qx.mono b1.size)
  have s1 := b1.size
  have HW := Lib.hid hwx
  clear hwx hb b1 qx
  go_wp2_with fail
  rw [← HW.out]
  refine (implBoxExpunge_any b _ _ X.box).mono ?_
  rintro e w2 ⟨s, gi, ci, rfl, ho, hoi, q2⟩
  obtain ⟨a2, cap2, rfl⟩ := ho.slice
  obtain ⟨hle1, hle2⟩ := expunge_lens b hl10
  have hii := hoi.at (by omega)
  obtain ⟨R, hR⟩ : ∃ R, expunge b = R := ⟨_, rfl⟩
  rw [hR] at ho hii hle1 hle2 ⊢
  have HR := Lib.hid hR
  have HI := Lib.hid hii
  obtain ⟨wy, hwy, Y, qy, sy⟩ := new_box ho (by omega)
  replace X := X.below q2
  obtain ⟨c0, c1, f0, f1⟩ := X.cells
  have n1 := X.lt
  have s2 := q2.size
  replace bel := (bel.trans (q2.mono bel.size)).trans (qy.mono (Nat.le_trans bel.size q2.size))
  replace X := X.below qy
  replace HI := Lib.hid (HI.out.below qy)
  clear HW ho hoi hii q2 qy hR
  have HW := Lib.hid hwy
  clear hwy
  go_wp2_with fail
  rw [← HW.out]
  clear c0 c1 f0 f1
  refine (specBoxExpunge_any b _ _ X.box).mono ?_
  rintro e w3 ⟨s, vi, rfl, ho, hoi, q3⟩
  obtain ⟨a3, cap3, rfl⟩ := ho.slice
  obtain ⟨aj, cj, rfl⟩ := hoi.slice
  rw [HR.out] at ho hoi ⊢
  have hjj := hoi.at (by omega)
  obtain ⟨wz, hwz, Z, qz, sz⟩ := new_box ho (by omega)
  replace X := (X.below q3).below qz
  have HJ := Lib.hid (hjj.below qz)
  replace HI := Lib.hid ((HI.out.below q3).below qz)
  replace Y := Y.below q3
  obtain ⟨c0, c1, f0, f1⟩ := Y.cells
  have n2 := Y.lt
  have s3 := q3.size
  replace Y := Y.below qz
  replace bel := (bel.trans (q3.mono bel.size)).trans (qz.mono (Nat.le_trans bel.size q3.size))
  clear HW ho hoi hjj q3 qz
  have HW := Lib.hid hwz
  clear hwz
  go_wp2_with fail
  rw [← HW.out]
  clear c0 c1 f0 f1
  refine (sameBox_any R.1 _ _ _ Y.box Z.box).mono ?_
  rintro e w4 ⟨rfl, q4⟩
  replace X := X.below q4
  replace Y := Y.below q4
  replace Z := Z.below q4
  replace HI := Lib.hid (HI.out.below q4)
  replace HJ := Lib.hid (HJ.out.below q4)
  have s4 := q4.size
  replace bel := bel.trans (q4.mono bel.size)
  clear HW q4
  go_wp2_with fail
  refine (sameInts_any R.2 _ _ _ HI.out HJ.out).mono ?_
  rintro e w5 ⟨rfl, q5⟩
  replace X := X.below q5
  replace Y := Y.below q5
  replace Z := Z.below q5
  replace HI := Lib.hid (HI.out.below q5)
  replace HJ := Lib.hid (HJ.out.below q5)
  have s5 := q5.size
  replace bel := bel.trans (q5.mono bel.size)
  clear q5
  obtain ⟨c0, c1, f0, f1⟩ := X.cells
  go_wp2_with fail
  refine (specBoxValid_any b _ _ X.box).mono ?_
  rintro e w6 ⟨rfl, q6⟩
  replace X := X.below q6
  replace Y := Y.below q6
  replace Z := Z.below q6
  replace HI := Lib.hid (HI.out.below q6)
  replace HJ := Lib.hid (HJ.out.below q6)
  have s6 := q6.size
  replace bel := bel.trans (q6.mono bel.size)
  clear q6 c0 c1 f0 f1
  rcases hbk : bok b with _ | _
  ·
    obtain ⟨c0, c1, f0, f1⟩ := Y.cells
    obtain ⟨d0, d1, e0, e1⟩ := Z.cells
    go_wp2_with fail
    refine (sameBox_any R.1 _ _ _ Y.box Z.box).mono ?_
    rintro e w7 ⟨rfl, q7⟩
    replace HI := Lib.hid (HI.out.below q7)
    replace HJ := Lib.hid (HJ.out.below q7)
    replace bel := bel.trans (q7.mono bel.size)
    clear q7 c0 c1 f0 f1 d0 d1 e0 e1
    go_wp2_with fail
    refine (sameInts_any R.2 _ _ _ HI.out HJ.out).mono ?_
    rintro e w8 ⟨rfl, q8⟩
    replace bel := bel.trans (q8.mono bel.size)
    clear q8
    go_wp2_with fail
    go_ret
    exact ⟨rfl, bel⟩
  clear HJ Z
  obtain ⟨K, k1, k2, k3⟩ := kept_all hbk
  have K1 := Lib.hid k1; have K2 := Lib.hid k2; have K3 := Lib.hid k3
  clear hbk Y HI HR k1 k2 k3
  obtain ⟨c0, c1, f0, f1⟩ := X.cells
  have HX := Lib.hid X
  have m6 := ne_both X.lt
  clear X
  go_upto_region 8 with fail
  go_cut [8, 9] (fun p q wx => ∃ (kx base : Nat) (a8 : Option Addr) (cap8 : Nat), p = .pointer (some ⟨kx, 0, none⟩) ∧ q = .bool true ∧ Hid (BoxCell wx kx base K a8 cap8) ∧ Hid (Below w6.heap.size w6 wx))
  case first =>
    go_region_held3 (fun W => W.cell? ⟨w1.heap.size, 0, none⟩ = some (.int .i64 b.next) ∧ W.cell? ⟨w1.heap.size, 1, none⟩ = some (.slice a1 b.mail.length cap1)) (first | exact ⟨c0, c1⟩ | (go_keep; done))
      (first
      | (go_at_call 25; refine (upTo_any b.mail.length (by omega) _).mono ?_; rintro e w7 ⟨gu, cu, rfl, hou, q7⟩; (first | have z7 := (q7.block w6.heap.size (by simp)).trans (heap_alloc_new w6 _) | skip); have b7 : Below w6.heap.size w6 w7 := Below.trans (by go_grown) (q7.mono (by first | exact Nat.le_refl _ | simp)); obtain ⟨c0, c1, f0, f1⟩ := (HX.out.below b7).cells; have HU := Lib.hid (OwnInts.at hou (by rw [upList_len]; omega)); have HB7 := Lib.hid b7; have hs7 := b7.size; have m7 := ne_both (lt_of_block ((b7.block w1.heap.size HX.out.lt).trans HX.out.block)); clear hou q7 b7)
      | (have hx := HB7; go_at_call 24; refine (implBoxFlags_any b (upList b.mail.length) (-1) 8 _ _ _ ((HX.out.below (Below.trans HB7.out (by go_grown))).box) (HU.out.below (by go_grown))).mono ?_; rintro e w8 ⟨s, rfl, ho, q8⟩; (first | have z8 := (q8.block w6.heap.size (lt_of_block z7)).trans z7 | have z8 := (q8.block w7.heap.size (by simp)).trans (heap_alloc_new w7 _) | skip); have b8 : Below w6.heap.size w6 w8 := Below.trans (Below.trans HB7.out (by go_grown)) (q8.mono (by first | exact HB7.out.size | exact Nat.le_trans HB7.out.size (by simp))); obtain ⟨c0, c1, f0, f1⟩ := (HX.out.below b8).cells; obtain ⟨a8, cap8, rfl⟩ := ho.slice; rw [K1.out] at ho ⊢; dsimp only at ho ⊢; have HO := Lib.hid ho; have HB8 := Lib.hid b8; (first | (have Z8 := Lib.hid z8; obtain ⟨d0, d1, e0, e1⟩ := two_cells z8; clear z8) | skip); (first | clear z7 | skip); clear ho q8 b8 hx))
    all_goals
      go_wp2_with fail
      go_meet
      first
        | exact ⟨_, _, a8, cap8, rfl, rfl, ⟨heap_alloc_new w8 _, HO.out.alloc _, by have := K2.out; omega⟩, HB8.out.alloc HB8.out.size _⟩
        | exact ⟨_, _, a8, cap8, rfl, rfl, ⟨set_one (set_zero Z8.out), (HO.out.box Z8.out _ _).box (set_zero Z8.out) _ _, by have := K2.out; omega⟩, (HB8.out.setCell (by first | exact Nat.le_refl _ | assumption) _).setCell (by first | exact Nat.le_refl _ | assumption) _⟩
  obtain ⟨kx, base, a8, cap8, rfl, rfl, HY, HB⟩ := hcut
  have s8 := HB.out.size
  replace bel := bel.trans (HB.out.mono bel.size)
  obtain ⟨c0, c1, f0, f1⟩ := HY.out.cells
  go_wp2_with fail
  refine (implBoxExpunge_any K _ _ HY.out.box).mono ?_
  rintro e w9 ⟨s, gi, ci, rfl, ho, hoi, q9⟩
  rw [K3.out] at ho hoi ⊢
  dsimp only at ho hoi ⊢
  obtain ⟨a9, cap9, rfl⟩ := ho.slice
  obtain ⟨wz, hwz, Z, qz, sz⟩ := new_box ho (by have := K2.out; omega)
  have Y := HY.out.below q9
  clear c0 c1 f0 f1
  obtain ⟨c0, c1, f0, f1⟩ := Y.cells
  have n3 := Y.lt
  replace Y := Y.below qz
  have s9 := q9.size
  replace bel := (bel.trans (q9.mono bel.size)).trans (qz.mono (Nat.le_trans bel.size q9.size))
  have HW2 := Lib.hid hwz
  clear hwz ho hoi q9 qz sz HY
  go_wp2_with fail
  rw [← HW2.out]
  refine (sameBox_any K _ _ _ Y.box Z.box).mono ?_
  rintro e w10 ⟨rfl, q10⟩
  replace bel := bel.trans (q10.mono bel.size)
  clear q10 c0 c1 f0 f1 Y Z HW2
  go_wp2_with fail
  go_ret
  exact ⟨rfl, bel⟩
end Go.Proofs.Ytojfalimohcebaa

/- WALKS: the laws of looking up numbers. -/
import Derived.Test.YtdnogbneajloeaaBoxCell
import Derived.Test.YtdnogbneajloeaaDrawUids
import Derived.Deep.LoopGhost
import Derived.IntWalk
namespace Go.Proofs.Ytdnogbneajloeaa
open Go.RowKit
set_option linter.unusedVariables false

theorem uids_step {us : List Int} {l : List M} {n : Nat} {m : M} (h : l[n]? = some m) :
    (hasB us m.uid = true → (uidsTo us l 0)[(uidsTo us (l.take n) 0).length]? = some ((n : Int) + 1) ∧ (uidsTo us (l.take (n + 1)) 0).length = (uidsTo us (l.take n) 0).length + 1) ∧
    (hasB us m.uid = false → (uidsTo us (l.take (n + 1)) 0).length = (uidsTo us (l.take n) 0).length) := by
  obtain ⟨hn, rfl⟩ := List.getElem?_eq_some_iff.1 h
  rw [uidsTo_take us hn]
  unfold uidStep
  refine ⟨fun hc => ⟨?_, by rw [hc]; simp⟩, fun hc => by rw [hc]; rfl⟩
  have e : uidsTo us l 0 = uidsTo us (l.take n) 0 ++ uidsTo us (l.drop n) (0 + (l.take n).length) := by rw [← uidsTo_append, List.take_append_drop]
  have e2 : l.drop n = l[n] :: l.drop (n + 1) := List.drop_eq_getElem_cons hn
  have e3 : 0 + (l.take n).length = n := by simp; omega
  rw [e, e2, e3, List.getElem?_append_right (Nat.le_refl _), Nat.sub_self]
  simp [uidsTo, hc]
set_option maxHeartbeats 1000000 in
theorem fnUids.walk (a : Option Addr) (len cap : Nat) (hl : len ≤ cap) (hm : cap ≤ maxLen) (w : World) (hc : CodeAt w a len) :
    Calls Try.prog 12 #[.slice a len cap] w fun e w' => e = .returned (.bool true) ∧ Below w.heap.size w w' := by
  unfold maxLen at hm
  by_cases h1 : 1048576 < len
  · go_enter Try.func12, Try.ntmps12
    go_wp2_with fail
    all_goals go_ret
    all_goals exact ⟨rfl, Below.refl _ _⟩
  go_enter Try.func12, Try.ntmps12
  go_wp2_with fail
  refine (DrawBoxUids_any a len cap hl w hc).mono ?_
  clear hc
  rintro e w1 ⟨b, a1, cap1, gu, ku, cu, us, rfl, hb, ⟨hu, hul, hku⟩, b1⟩
  have hl10 := hb.1.2.2
  have hui := hu.at (by omega)
  obtain ⟨wx, hwx, X, qx, sx⟩ := new_box hb.2 (by omega)
  have bel := b1.trans (qx.mono b1.size)
  have s1 := b1.size
  have HU := Lib.hid (hui.below qx)
  have HW := Lib.hid hwx
  have HUL := Lib.hid hul
  clear hwx hb b1 qx hu hui hul
  go_wp2_with fail
  rw [← HW.out]
  refine (implBoxUids_any b us _ _ _ X.box HU.out).mono ?_
  rintro e w2 ⟨g2, cap2, rfl, ho, q2⟩
  have hle : (uidsOf b us).length ≤ 10 := by
    unfold uidsOf
    split
    · have := uidsTo_len us b.mail 0; omega
    · simp
  obtain ⟨R, hR⟩ : ∃ R, uidsOf b us = R := ⟨_, rfl⟩
  rw [hR] at ho hle ⊢
  have HR := Lib.hid hR
  have hoi := ho.at (by omega)
  replace X := X.below q2
  have s2 := q2.size
  replace bel := bel.trans (q2.mono bel.size)
  have HI := Lib.hid hoi
  replace HU := Lib.hid (HU.out.below q2)
  clear HW ho hoi q2 hR
  obtain ⟨c0, c1, f0, f1⟩ := X.cells
  go_wp2_with fail
  refine (specBoxUids_any b us _ _ _ X.box HU.out).mono ?_
  rintro e w3 ⟨g3, cap3, rfl, ho, q3⟩
  rw [HR.out] at ho ⊢
  have hoi := ho.at (by omega)
  replace X := X.below q3
  have s3 := q3.size
  replace bel := bel.trans (q3.mono bel.size)
  have HJ := Lib.hid hoi
  replace HU := Lib.hid (HU.out.below q3)
  replace HI := Lib.hid (HI.out.below q3)
  clear ho hoi q3 c0 c1 f0 f1
  obtain ⟨c0, c1, f0, f1⟩ := X.cells
  go_wp2_with fail
  refine (sameInts_any R _ _ _ HI.out HJ.out).mono ?_
  rintro e w4 ⟨rfl, q4⟩
  replace X := X.below q4
  have s4 := q4.size
  replace bel := bel.trans (q4.mono bel.size)
  replace HU := Lib.hid (HU.out.below q4)
  replace HI := Lib.hid (HI.out.below q4)
  replace HJ := Lib.hid (HJ.out.below q4)
  clear q4 c0 c1 f0 f1
  obtain ⟨c0, c1, f0, f1⟩ := X.cells
  go_wp2_with fail
  refine (specBoxValid_any b _ _ X.box).mono ?_
  rintro e w5 ⟨rfl, q5⟩
  replace X := X.below q5
  have s5 := q5.size
  replace bel := bel.trans (q5.mono bel.size)
  replace HU := Lib.hid (HU.out.below q5)
  replace HI := Lib.hid (HI.out.below q5)
  replace HJ := Lib.hid (HJ.out.below q5)
  clear q5 c0 c1 f0 f1
  rcases hbk : bok b with _ | _
  · go_wp2_with fail
    refine (sameInts_any R _ _ _ HI.out HJ.out).mono ?_
    rintro e w9 ⟨rfl, q9⟩
    replace bel := bel.trans (q9.mono bel.size)
    clear q9
    go_wp2_with fail
    go_ret
    exact ⟨rfl, bel⟩
  · have hR2 : R = uidsTo us b.mail 0 := by rw [← HR.out]; simp [uidsOf, hbk]
    have HR2 := Lib.hid hR2
    have HX := Lib.hid X
    obtain ⟨c0, c1, f0, f1⟩ := X.cells
    obtain ⟨am, nm, capm, he, hnm, hcm, _, hmail⟩ := X.mail
    cases he
    obtain ⟨ai, ni, capi, he, hni, hci, _, hints⟩ := HI.out
    cases he
    have HMAIL := Lib.hid hmail; have HINTS := Lib.hid hints
    obtain ⟨L, hL⟩ : ∃ L, b.mail.length = L := ⟨_, rfl⟩
    have HL := Lib.hid hL
    rw [hL] at hl10 c1
    clear hR2 X hmail hints hni hnm hL hbk
    go_wp2_with fail
    go_loop [7, 8] (fun kv i => ∃ (n k : Nat), n ≤ L ∧ k ≤ R.length ∧ kv = .int .i64 k ∧ i = .int .i64 n ∧ Hid ((uidsTo us (b.mail.take n) 0).length = k)) (fun _ i => L - (intOf i).toNat)
    case atStart => exact ⟨0, 0, by omega, by omega, rfl, rfl, rfl⟩
    case round =>
      obtain ⟨n, k, hnL, hkN, rfl, rfl, HK⟩ := hrel
      by_cases hlt : n < L
      · rcases HMAIL.out with h0 | ⟨gm, off, rfl, hg, hcells⟩
        · exfalso; have := HL.out; omega
        have hlt' : n < b.mail.length := by rw [HL.out]; exact hlt
        have hm := List.getElem?_eq_getElem hlt'
        generalize b.mail[n] = m at hm
        obtain ⟨d0, d1, d2⟩ := hcells n _ hm
        obtain ⟨st1, st2⟩ := uids_step (us := us) hm
        rw [HK.out, ← HR2.out] at st1
        rw [HK.out] at st2
        have S1 := Lib.hid st1; have S2 := Lib.hid st2
        have hnI : (n : Int) < (L : Int) := by omega
        clear hcells hm st1 st2 d1 d2
        go_wp2_with fail
        refine (hasInt_any us m.uid _ _ HU.out).mono ?_
        rintro e w' ⟨rfl, rfl⟩
        rcases hc : hasB us m.uid with _ | _
        · have hs := S2.out hc
          have HS := Lib.hid hs
          clear hs hc S1 S2
          go_wp2_with fail
          go_round
          case rel => exact ⟨n + 1, k, by omega, by omega, rfl, by go_num, HS.out⟩
          case measure => simp [intOf]; omega
        · obtain ⟨hs1, hs2⟩ := S1.out hc
          have hkN2 : k < R.length := (List.getElem?_eq_some_iff.1 hs1).1
          rcases HINTS.out with h0 | ⟨gi, offi, he, hgi, hints⟩
          · exfalso; omega
          cases he
          have x0 := hints k _ hs1
          rw [Nat.zero_add] at x0
          have hkI : (k : Int) < (R.length : Int) := by omega
          have HS := Lib.hid hs2
          clear hs1 hs2 hc S1 S2 hints
          go_wp2_with fail
          go_round
          case rel => exact ⟨n + 1, k + 1, by omega, by omega, by go_num, by go_num, HS.out⟩
          case measure => simp [intOf]; omega
      · obtain rfl : n = L := by omega
        have hkN2 : k = R.length := by
          rw [HR2.out, ← HK.out, ← HL.out, List.take_length]
        have HKN := Lib.hid hkN2
        clear hkN2
        go_wp2_with fail
        go_ret
        exact ⟨ret_bool (by rw [← HKN.out]; simp), bel⟩
theorem uidsTo_all (us : List Int) : ∀ (l : List M) (n : Nat), (∀ m ∈ l, hasB us m.uid = true) → uidsTo us l n = (List.range' (n + 1) l.length).map (fun k : Nat => (k : Int))
  | [], n, _ => by simp [uidsTo]
  | m :: l, n, h => by
    rw [uidsTo, h m (by simp), uidsTo_all us l (n + 1) (fun x hx => h x (by simp [hx])), List.length_cons, List.range'_succ]
    simp
/-- All numbers, the last first. -/
def allBack (l : List M) (n : Nat) : List Int := (l.drop n).reverse.map M.uid
theorem allBack_step {l : List M} {p : Nat} {m : M} (h : l[p]? = some m) : allBack l p = allBack l (p + 1) ++ [m.uid] := by
  obtain ⟨hp, rfl⟩ := List.getElem?_eq_some_iff.1 h
  unfold allBack
  rw [List.drop_eq_getElem_cons hp, List.reverse_cons, List.map_append]
  rfl
theorem uidsOf_all {b : B} (h : bok b = true) : uidsOf b (allBack b.mail 0) = upList b.mail.length := by
  unfold uidsOf upList
  rw [if_pos h, uidsTo_all _ _ 0 (fun m hm => by rw [hasB_mem]; unfold allBack; simp; exact ⟨m, hm, rfl⟩)]
set_option maxHeartbeats 1000000 in
theorem fnUidsAll.walk (a : Option Addr) (len cap : Nat) (hl : len ≤ cap) (hm : cap ≤ maxLen) (w : World) (hc : CodeAt w a len) :
    Calls Try.prog 11 #[.slice a len cap] w fun e w' => e = .returned (.bool true) ∧ Below w.heap.size w w' := by
  unfold maxLen at hm
  by_cases h1 : 1048576 < len
  · go_enter Try.func11, Try.ntmps11
    go_wp2_with fail
    all_goals go_ret
    all_goals exact ⟨rfl, Below.refl _ _⟩
  go_enter Try.func11, Try.ntmps11
  go_wp2_with fail
  refine (DrawBoxUids_any a len cap hl w hc).mono ?_
  clear hc
  rintro e w1 ⟨b, a1, cap1, gu, ku, cu, us, rfl, hb, ⟨hu, hul, hku⟩, b1⟩
  have hl10 := hb.1.2.2
  have hui := hu.at (by omega)
  obtain ⟨wx, hwx, X, qx, sx⟩ := new_box hb.2 (by omega)
  have bel := b1.trans (qx.mono b1.size)
  have s1 := b1.size
  have HU := Lib.hid (hui.below qx)
  have HW := Lib.hid hwx
  have HUL := Lib.hid hul
  clear hwx hb b1 qx hu hui hul
  go_wp2_with fail
  rw [← HW.out]
  refine (implBoxUids_any b us _ _ _ X.box HU.out).mono ?_
  rintro e w2 ⟨g2, cap2, rfl, ho, q2⟩
  have hle : (uidsOf b us).length ≤ 10 := by
    unfold uidsOf
    split
    · have := uidsTo_len us b.mail 0; omega
    · simp
  obtain ⟨R, hR⟩ : ∃ R, uidsOf b us = R := ⟨_, rfl⟩
  rw [hR] at ho hle ⊢
  have HR := Lib.hid hR
  have hoi := ho.at (by omega)
  replace X := X.below q2
  have s2 := q2.size
  replace bel := bel.trans (q2.mono bel.size)
  have HI := Lib.hid hoi
  replace HU := Lib.hid (HU.out.below q2)
  clear HW ho hoi q2 hR
  obtain ⟨c0, c1, f0, f1⟩ := X.cells
  go_wp2_with fail
  refine (specBoxUids_any b us _ _ _ X.box HU.out).mono ?_
  rintro e w3 ⟨g3, cap3, rfl, ho, q3⟩
  rw [HR.out] at ho ⊢
  have hoi := ho.at (by omega)
  replace X := X.below q3
  have s3 := q3.size
  replace bel := bel.trans (q3.mono bel.size)
  have HJ := Lib.hid hoi
  replace HU := Lib.hid (HU.out.below q3)
  replace HI := Lib.hid (HI.out.below q3)
  clear ho hoi q3 c0 c1 f0 f1
  obtain ⟨c0, c1, f0, f1⟩ := X.cells
  go_wp2_with fail
  refine (sameInts_any R _ _ _ HI.out HJ.out).mono ?_
  rintro e w4 ⟨rfl, q4⟩
  replace X := X.below q4
  have s4 := q4.size
  replace bel := bel.trans (q4.mono bel.size)
  replace HU := Lib.hid (HU.out.below q4)
  replace HI := Lib.hid (HI.out.below q4)
  replace HJ := Lib.hid (HJ.out.below q4)
  clear q4 c0 c1 f0 f1
  obtain ⟨c0, c1, f0, f1⟩ := X.cells
  go_wp2_with fail
  refine (specBoxValid_any b _ _ X.box).mono ?_
  rintro e w5 ⟨rfl, q5⟩
  replace X := X.below q5
  have s5 := q5.size
  replace bel := bel.trans (q5.mono bel.size)
  replace HU := Lib.hid (HU.out.below q5)
  replace HI := Lib.hid (HI.out.below q5)
  replace HJ := Lib.hid (HJ.out.below q5)
  clear q5 c0 c1 f0 f1
  rcases hbk : bok b with _ | _
  · go_wp2_with fail
    refine (sameInts_any R _ _ _ HI.out HJ.out).mono ?_
    rintro e w9 ⟨rfl, q9⟩
    replace bel := bel.trans (q9.mono bel.size)
    clear q9
    go_wp2_with fail
    go_ret
    exact ⟨rfl, bel⟩
  · obtain ⟨j0, hj, hy0, hy1, hy2⟩ := info_parts Try.infoInt
    have HX := Lib.hid X
    have HBK := Lib.hid hbk
    obtain ⟨c0, c1, f0, f1⟩ := X.cells
    have zx := X.lt
    obtain ⟨am, nm, capm, he, hnm, hcm, _, hmail⟩ := X.mail
    cases he
    have HMAIL := Lib.hid hmail
    have q6 : Below w5.heap.size w5 (w5.alloc (.cells #[] 3)) := (Below.refl _ _).alloc (Nat.le_refl _) _
    have ho6 : (w5.alloc (.cells #[] 3)).ownsRow w5.heap.size 3 1 (.slice (some ⟨w5.heap.size, 0, none⟩) 0 0) 0 ((allBack b.mail b.mail.length).map (Value.int .i64)) := by
      have : allBack b.mail b.mail.length = [] := by unfold allBack; simp
      rw [this]
      exact own_new _ _ _ _ (Nat.le_refl _)
    have HO := Lib.hid ho6; have Q6 := Lib.hid q6
    clear X hmail hnm hbk ho6 q6 HU HI HJ HR HUL hku
    have x9 : IntKind.i64.wrap ((b.mail.length : Int) - 1) = (b.mail.length : Int) - 1 := IntWalk.i64_in _ (by omega)
    go_wp2_with fail
    clear x9
    go_loopg [7, 8] b.mail.length (fun gk out i wr => ∃ (n k cp g : Nat), n ≤ gk ∧ gk ≤ n ∧ n + k = b.mail.length ∧ out = .slice (some ⟨g, 0, none⟩) k cp ∧ i = .int .i64 ((n : Int) - 1) ∧ Hid (wr.ownsRow w5.heap.size 3 1 (.slice (some ⟨g, 0, none⟩) k cp) k ((allBack b.mail n).map (Value.int .i64))) ∧ Below w5.heap.size w5 wr)
    case atStart => exact ⟨b.mail.length, 0, 0, _, by omega, by omega, by omega, rfl, rfl, HO.out, Q6.out⟩
    case round =>
      obtain ⟨n, k, cp, g, hg1, hg2, hnk, rfl, rfl, HR, hq⟩ := hrel
      clear HO Q6 c0 c1 f0 f1
      obtain ⟨c0, c1, f0, f1⟩ := (HX.out.below hq).cells
      rcases n with _ | p
      · have e0 : (((0 : Nat) : Int) - 1) = -1 := by omega
        rw [e0]
        have hk : k = b.mail.length := by omega
        have HK := Lib.hid hk
        have ho := HR.out
        obtain ⟨m1, m2⟩ := OwnInts.mk ho
        have hia := m1.at (by omega)
        have HIA := Lib.hid hia
        have hua := uidsOf_all HBK.out
        have HUA := Lib.hid hua
        have hlen : (upList b.mail.length).length = b.mail.length := upList_len _
        have HLEN := Lib.hid hlen
        have CU := Lib.hid (fun (W : World) (hW : Below wr.heap.size wr W) => implBoxUids_any b (allBack b.mail 0) (.agg #[.int .i64 b.next, .slice a1 b.mail.length cap1]) (.slice (some ⟨g, 0, none⟩) k cp) W (((HX.out.below hq).below hW).box) (hia.below hW))
        clear ho m1 m2 hia hua hlen hk e0 HR
        go_wp2_with fail
        go_region_held3 (fun W => W.cell? ⟨w1.heap.size, 0, none⟩ = some (.int .i64 b.next) ∧ W.cell? ⟨w1.heap.size, 1, none⟩ = some (.slice a1 b.mail.length cap1)) (first | exact ⟨c0, c1⟩ | (go_keep; done))
          (first
          | (go_at_call 32; refine (sameInts_any (upList b.mail.length) _ _ _ (F1.out.below (by go_grown)) (F2.out.below (by go_grown))).mono ?_; rintro e w9 ⟨rfl, q9⟩; have b9 : Below wr.heap.size wr w9 := Below.trans (Below.trans BF.out (by go_grown)) (q9.mono (show wr.heap.size ≤ _ from BF.out.size)); obtain ⟨c0, c1, f0, f1⟩ := ((HX.out.below hq).below b9).cells; clear q9)
          | (have hx := B7; go_at_call 33; refine (upTo_any b.mail.length (by omega) _).mono ?_; rintro e w8 ⟨gu6, cu6, rfl, hu6, q8⟩; have b8 : Below wr.heap.size wr w8 := Below.trans (Below.trans B7.out (by go_grown)) (q8.mono (show wr.heap.size ≤ _ from B7.out.size)); obtain ⟨c0, c1, f0, f1⟩ := ((HX.out.below hq).below b8).cells; have F2 := Lib.hid (OwnInts.at hu6 (by rw [HLEN.out]; omega)); have F1 := Lib.hid (A7.out.below (Below.trans (by go_grown) q8)); have BF := Lib.hid b8; clear hx hu6 q8 b8 B7 A7)
          | (have hx := B6; go_at_call 30; refine (CU.out _ (Below.trans B6.out (by go_grown))).mono ?_; rintro e w8 ⟨gu7, cu7, rfl, hu7, q8⟩; rw [HUA.out, HLEN.out] at hu7 ⊢; have b8 : Below wr.heap.size wr w8 := Below.trans (Below.trans B6.out (by go_grown)) (q8.mono (show wr.heap.size ≤ _ from B6.out.size)); obtain ⟨c0, c1, f0, f1⟩ := ((HX.out.below hq).below b8).cells; have F1 := Lib.hid (OwnInts.at hu7 (by rw [HLEN.out]; omega)); have F2 := Lib.hid (A6.out.below (Below.trans (by go_grown) q8)); have BF := Lib.hid b8; clear hx hu7 q8 b8 B6 A6)
          | (go_at_call 33; refine (upTo_any b.mail.length (by omega) _).mono ?_; rintro e w6 ⟨gu6, cu6, rfl, hu6, q6⟩; have b6 : Below wr.heap.size wr w6 := Below.trans (by go_grown) q6; obtain ⟨c0, c1, f0, f1⟩ := ((HX.out.below hq).below b6).cells; have A6 := Lib.hid (OwnInts.at hu6 (by rw [HLEN.out]; omega)); have B6 := Lib.hid b6; clear hu6 q6 b6)
          | (go_at_call 30; refine (CU.out _ (by go_grown)).mono ?_; rintro e w7 ⟨gu7, cu7, rfl, hu7, q7⟩; rw [HUA.out, HLEN.out] at hu7 ⊢; have b7 : Below wr.heap.size wr w7 := Below.trans (by go_grown) q7; obtain ⟨c0, c1, f0, f1⟩ := ((HX.out.below hq).below b7).cells; have A7 := Lib.hid (OwnInts.at hu7 (by rw [HLEN.out]; omega)); have B7 := Lib.hid b7; clear hu7 q7 b7))
        all_goals
          go_wp2_with fail
          go_ret
          exact ⟨rfl, bel.trans ((hq.trans (b9.mono hq.size)).mono bel.size)⟩
      · have e0 : (((p + 1 : Nat) : Int) - 1) = (p : Int) := by omega
        rw [e0]
        have hp : p < b.mail.length := by omega
        rcases HMAIL.out with h0 | ⟨gm, off, rfl, hg, hcells⟩
        · omega
        have hm := List.getElem?_eq_getElem hp
        generalize b.mail[p] = m at hm
        obtain ⟨d0, d1, d2⟩ := hcells p _ hm
        have d0 := (hq.cell (p := ⟨gm, _, none⟩) hg).trans d0
        have hst := allBack_step hm
        have HST := Lib.hid hst
        have hpI : (p : Int) < (b.mail.length : Int) := by omega
        have hown : (wr.alloc (.cells #[.int .i64 m.uid] 3)).ownsRow w5.heap.size 3 1 (.slice (some ⟨g, 0, none⟩) k cp) k ((allBack b.mail (p + 1)).map (Value.int .i64)) := HR.out.alloc _
        have HO := Lib.hid hown
        clear hown hcells hm hst d1 d2 HR e0
        go_wp2_with (at_builtin; refine wpList_append_lies _ rfl _ _ _ rfl w5.heap.size 3 j0 (.int .i64 0) 1 8 Try.underlying45 hj hy0 hy1 hy2 rfl (by omega) _ k _ rfl HO.out ⟨wr.heap.size, 0, none⟩ 1 1 [.int .i64 m.uid] rfl rfl (cell_one_new _ _ _) (by simp [Value.oneCell']) (by omega) (by unfold maxLen; omega) (by omega) (by have := hq.size; simp; omega) (wr.heap.size + 1) (by simp) ?_)
        intro g2 cap2 w6 hown6 hgrow hat hlt6
        have q6 : Below w5.heap.size w5 w6 := (hq.alloc hq.size _).grown hgrow (by have := hq.size; simp; omega) (fun k hk => by simp [Value.ownBlock] at hk; have := row_base HO.out; omega)
        have r6 : w6.ownsRow w5.heap.size 3 1 (.slice (some ⟨g2, 0, none⟩) (k + 1) cap2) (k + 1) ((allBack b.mail p).map (Value.int .i64)) := by rw [HST.out, List.map_append]; exact hown6
        have R6 := Lib.hid r6
        clear hown6 hgrow hat r6 HO
        go_wp2_with fail
        go_roundg (gk - 1)
        case measure => omega
        case rel => exact ⟨p, k + 1, cap2, g2, by omega, by omega, by omega, rfl, rfl, R6.out, q6⟩
end Go.Proofs.Ytdnogbneajloeaa

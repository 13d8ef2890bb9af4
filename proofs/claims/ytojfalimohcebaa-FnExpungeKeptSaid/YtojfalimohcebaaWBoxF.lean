/- WALKS: the laws of removing deleted messages. -/
import Derived.Test.YtojfalimohcebaaBoxCell
import Derived.Test.YtojfalimohcebaaPExpunge
import Derived.Test.YtojfalimohcebaaExLaws
import Derived.IntWalk
import Derived.Deep.QuietTactic
import Derived.BigQuiet
namespace Go.Proofs.Ytojfalimohcebaa
open Go.RowKit
set_option linter.unusedVariables false

theorem OwnInts.slice {w : World} {base : Nat} {v : Value} {l : List Int} (h : OwnInts w base v l) : ∃ a cap, v = .slice a l.length cap := by
  rcases h.2 with ⟨h, h0⟩ | ⟨g, cap, cur, h, _⟩
  · exact ⟨none, 0, by rw [h0]; exact h⟩
  · exact ⟨_, cap, h⟩
set_option maxHeartbeats 1000000 in
theorem fnExpungeTwice.walk (a : Option Addr) (len cap : Nat) (hl : len ≤ cap) (hm : cap ≤ maxLen) (w : World) (hc : CodeAt w a len) :
    Calls Try.prog 5 #[.slice a len cap] w fun e w' => e = .returned (.bool true) ∧ Below w.heap.size w w' := by
  unfold maxLen at hm
  by_cases h1 : 1048576 < len
  · go_enter Try.func5, Try.ntmps5
    go_wp2_with fail
    all_goals go_ret
    all_goals exact ⟨rfl, Below.refl _ _⟩
  go_enter Try.func5, Try.ntmps5
  go_wp2_with fail
  refine (DrawBoxExpunge_any a len cap hl w hc).mono ?_
  clear hc
  rintro e w1 ⟨b, a1, cap1, rfl, hb, b1⟩
  have hl10 := hb.1.2.2
  obtain ⟨wx, hwx, X, qx, sx⟩ := new_box hb.2 (by omega)
  have bel := b1.trans (qx.mono b1.size)
  have s1 := b1.size
  have HW := Lib.hid hwx
  clear hwx hb b1 qx
  go_wp2_with fail
  rw [← HW.out]
  refine (implBoxExpunge_any b _ _ X.box).mono ?_
  rintro e w2 ⟨s, gi, ci, rfl, ho, hoi, q2⟩
  obtain ⟨a2, cap2, rfl⟩ := ho.slice
  obtain ⟨hle1, hle2⟩ := expunge_lens b hl10
  have hii := hoi.at (by omega)
  obtain ⟨R, hR⟩ : ∃ R, expunge b = R := ⟨_, rfl⟩
  rw [hR] at ho hii hle1 hle2 ⊢
  have HR := Lib.hid hR
  have HI := Lib.hid hii
  obtain ⟨wy, hwy, Y, qy, sy⟩ := new_box ho (by omega)
  replace X := X.below q2
  obtain ⟨c0, c1, f0, f1⟩ := X.cells
  have n1 := X.lt
  have s2 := q2.size
  replace bel := (bel.trans (q2.mono bel.size)).trans (qy.mono (Nat.le_trans bel.size q2.size))
  replace X := X.below qy
  replace HI := Lib.hid (HI.out.below qy)
  clear HW ho hoi hii q2 qy hR
  have HW := Lib.hid hwy
  clear hwy
  go_wp2_with fail
  rw [← HW.out]
  clear c0 c1 f0 f1
  refine (specBoxExpunge_any b _ _ X.box).mono ?_
  rintro e w3 ⟨s, vi, rfl, ho, hoi, q3⟩
  obtain ⟨a3, cap3, rfl⟩ := ho.slice
  obtain ⟨aj, cj, rfl⟩ := hoi.slice
  rw [HR.out] at ho hoi ⊢
  have hjj := hoi.at (by omega)
  obtain ⟨wz, hwz, Z, qz, sz⟩ := new_box ho (by omega)
  replace X := (X.below q3).below qz
  have HJ := Lib.hid (hjj.below qz)
  replace HI := Lib.hid ((HI.out.below q3).below qz)
  replace Y := Y.below q3
  obtain ⟨c0, c1, f0, f1⟩ := Y.cells
  have n2 := Y.lt
  have s3 := q3.size
  replace Y := Y.below qz
  replace bel := (bel.trans (q3.mono bel.size)).trans (qz.mono (Nat.le_trans bel.size q3.size))
  clear HW ho hoi hjj q3 qz
  have HW := Lib.hid hwz
  clear hwz
  go_wp2_with fail
  rw [← HW.out]
  clear c0 c1 f0 f1
  refine (sameBox_any R.1 _ _ _ Y.box Z.box).mono ?_
  rintro e w4 ⟨rfl, q4⟩
  replace X := X.below q4
  replace Y := Y.below q4
  replace Z := Z.below q4
  replace HI := Lib.hid (HI.out.below q4)
  replace HJ := Lib.hid (HJ.out.below q4)
  have s4 := q4.size
  replace bel := bel.trans (q4.mono bel.size)
  clear HW q4
  go_wp2_with fail
  refine (sameInts_any R.2 _ _ _ HI.out HJ.out).mono ?_
  rintro e w5 ⟨rfl, q5⟩
  replace X := X.below q5
  replace Y := Y.below q5
  replace Z := Z.below q5
  replace HI := Lib.hid (HI.out.below q5)
  replace HJ := Lib.hid (HJ.out.below q5)
  have s5 := q5.size
  replace bel := bel.trans (q5.mono bel.size)
  clear q5
  obtain ⟨c0, c1, f0, f1⟩ := X.cells
  go_wp2_with fail
  refine (specBoxValid_any b _ _ X.box).mono ?_
  rintro e w6 ⟨rfl, q6⟩
  replace X := X.below q6
  replace Y := Y.below q6
  replace Z := Z.below q6
  replace HI := Lib.hid (HI.out.below q6)
  replace HJ := Lib.hid (HJ.out.below q6)
  have s6 := q6.size
  replace bel := bel.trans (q6.mono bel.size)
  clear q6 c0 c1 f0 f1
  rcases hbk : bok b with _ | _
  ·
    obtain ⟨c0, c1, f0, f1⟩ := Y.cells
    obtain ⟨d0, d1, e0, e1⟩ := Z.cells
    go_wp2_with fail
    refine (sameBox_any R.1 _ _ _ Y.box Z.box).mono ?_
    rintro e w7 ⟨rfl, q7⟩
    replace HI := Lib.hid (HI.out.below q7)
    replace HJ := Lib.hid (HJ.out.below q7)
    replace bel := bel.trans (q7.mono bel.size)
    clear q7 c0 c1 f0 f1 d0 d1 e0 e1
    go_wp2_with fail
    refine (sameInts_any R.2 _ _ _ HI.out HJ.out).mono ?_
    rintro e w8 ⟨rfl, q8⟩
    replace bel := bel.trans (q8.mono bel.size)
    clear q8
    go_wp2_with fail
    go_ret
    exact ⟨rfl, bel⟩
  clear HJ Z
  have ht := expunge_twice hbk
  have hok := expunge_bok hbk
  rw [HR.out] at ht hok
  have HT := Lib.hid ht; have HOK := Lib.hid hok
  clear HR ht hok hbk X HI
  obtain ⟨c0, c1, f0, f1⟩ := Y.cells
  go_wp2_with fail
  refine (implBoxExpunge_any R.1 _ _ Y.box).mono ?_
  rintro e w7 ⟨s, gi7, ci7, rfl, ho, hoi, q7⟩
  obtain ⟨a7, cap7, rfl⟩ := ho.slice
  rw [HT.out] at ho hoi ⊢
  dsimp only at ho ⊢
  obtain ⟨wy, hwy, Z, qy, sy⟩ := new_box ho (by omega)
  replace Y := Y.below q7
  replace bel := (bel.trans (q7.mono bel.size)).trans (qy.mono (Nat.le_trans bel.size q7.size))
  clear c0 c1 f0 f1
  obtain ⟨c0, c1, f0, f1⟩ := Y.cells
  have n7 := Y.lt
  replace Y := Y.below qy
  have HW := Lib.hid hwy
  clear hwy ho hoi q7 qy
  go_wp2_with fail
  rw [← HW.out]
  clear c0 c1 f0 f1
  refine (sameBox_any R.1 _ _ _ Z.box Y.box).mono ?_
  rintro e w8 ⟨rfl, q8⟩
  replace Y := Y.below q8
  replace bel := bel.trans (q8.mono bel.size)
  clear q8 HW Z
  obtain ⟨c0, c1, f0, f1⟩ := Y.cells
  go_wp2_with fail
  refine (implBoxValid_any R.1 _ _ Y.box).mono ?_
  rintro e w9 ⟨rfl, q9⟩
  rw [HOK.out]
  replace bel := bel.trans (q9.mono bel.size)
  clear q9
  go_wp2_with fail
  go_ret
  exact ⟨rfl, bel⟩
set_option maxHeartbeats 1000000 in
theorem fnExpunge.walk (a : Option Addr) (len cap : Nat) (hl : len ≤ cap) (hm : cap ≤ maxLen) (w : World) (hc : CodeAt w a len) :
    Calls Try.prog 3 #[.slice a len cap] w fun e w' => e = .returned (.bool true) ∧ Below w.heap.size w w' := by
  unfold maxLen at hm
  by_cases h1 : 1048576 < len
  · go_enter Try.func3, Try.ntmps3
    go_wp2_with fail
    all_goals go_ret
    all_goals exact ⟨rfl, Below.refl _ _⟩
  go_enter Try.func3, Try.ntmps3
  go_wp2_with fail
  refine (DrawBoxExpunge_any a len cap hl w hc).mono ?_
  clear hc
  rintro e w1 ⟨b, a1, cap1, rfl, hb, b1⟩
  have hl10 := hb.1.2.2
  obtain ⟨wx, hwx, X, qx, sx⟩ := new_box hb.2 (by omega)
  have bel := b1.trans (qx.mono b1.size)
  have s1 := b1.size
  have HW := Lib.hid hwx
  clear hwx hb b1 qx
  go_wp2_with fail
  rw [← HW.out]
  refine (implBoxExpunge_any b _ _ X.box).mono ?_
  rintro e w2 ⟨s, gi, ci, rfl, ho, hoi, q2⟩
  obtain ⟨a2, cap2, rfl⟩ := ho.slice
  obtain ⟨hle1, hle2⟩ := expunge_lens b hl10
  have hii := hoi.at (by omega)
  obtain ⟨R, hR⟩ : ∃ R, expunge b = R := ⟨_, rfl⟩
  rw [hR] at ho hii hle1 hle2 ⊢
  have HR := Lib.hid hR
  have HI := Lib.hid hii
  obtain ⟨wy, hwy, Y, qy, sy⟩ := new_box ho (by omega)
  replace X := X.below q2
  obtain ⟨c0, c1, f0, f1⟩ := X.cells
  have n1 := X.lt
  have s2 := q2.size
  replace bel := (bel.trans (q2.mono bel.size)).trans (qy.mono (Nat.le_trans bel.size q2.size))
  replace X := X.below qy
  replace HI := Lib.hid (HI.out.below qy)
  clear HW ho hoi hii q2 qy hR
  have HW := Lib.hid hwy
  clear hwy
  go_wp2_with fail
  rw [← HW.out]
  clear c0 c1 f0 f1
  refine (specBoxExpunge_any b _ _ X.box).mono ?_
  rintro e w3 ⟨s, vi, rfl, ho, hoi, q3⟩
  obtain ⟨a3, cap3, rfl⟩ := ho.slice
  obtain ⟨aj, cj, rfl⟩ := hoi.slice
  rw [HR.out] at ho hoi ⊢
  have hjj := hoi.at (by omega)
  obtain ⟨wz, hwz, Z, qz, sz⟩ := new_box ho (by omega)
  replace X := (X.below q3).below qz
  have HJ := Lib.hid (hjj.below qz)
  replace HI := Lib.hid ((HI.out.below q3).below qz)
  replace Y := Y.below q3
  obtain ⟨c0, c1, f0, f1⟩ := Y.cells
  have n2 := Y.lt
  have s3 := q3.size
  replace Y := Y.below qz
  replace bel := (bel.trans (q3.mono bel.size)).trans (qz.mono (Nat.le_trans bel.size q3.size))
  clear HW ho hoi hjj q3 qz
  have HW := Lib.hid hwz
  clear hwz
  go_wp2_with fail
  rw [← HW.out]
  clear c0 c1 f0 f1
  refine (sameBox_any R.1 _ _ _ Y.box Z.box).mono ?_
  rintro e w4 ⟨rfl, q4⟩
  replace X := X.below q4
  replace Y := Y.below q4
  replace Z := Z.below q4
  replace HI := Lib.hid (HI.out.below q4)
  replace HJ := Lib.hid (HJ.out.below q4)
  have s4 := q4.size
  replace bel := bel.trans (q4.mono bel.size)
  clear HW q4
  go_wp2_with fail
  refine (sameInts_any R.2 _ _ _ HI.out HJ.out).mono ?_
  rintro e w5 ⟨rfl, q5⟩
  replace X := X.below q5
  replace Y := Y.below q5
  replace Z := Z.below q5
  replace HI := Lib.hid (HI.out.below q5)
  replace HJ := Lib.hid (HJ.out.below q5)
  have s5 := q5.size
  replace bel := bel.trans (q5.mono bel.size)
  clear q5
  obtain ⟨c0, c1, f0, f1⟩ := X.cells
  go_wp2_with fail
  refine (specBoxValid_any b _ _ X.box).mono ?_
  rintro e w6 ⟨rfl, q6⟩
  replace X := X.below q6
  replace Y := Y.below q6
  replace Z := Z.below q6
  replace HI := Lib.hid (HI.out.below q6)
  replace HJ := Lib.hid (HJ.out.below q6)
  have s6 := q6.size
  replace bel := bel.trans (q6.mono bel.size)
  clear q6 c0 c1 f0 f1
  rcases hbk : bok b with _ | _
  ·
    obtain ⟨c0, c1, f0, f1⟩ := Y.cells
    obtain ⟨d0, d1, e0, e1⟩ := Z.cells
    go_wp2_with fail
    refine (sameBox_any R.1 _ _ _ Y.box Z.box).mono ?_
    rintro e w7 ⟨rfl, q7⟩
    replace HI := Lib.hid (HI.out.below q7)
    replace HJ := Lib.hid (HJ.out.below q7)
    replace bel := bel.trans (q7.mono bel.size)
    clear q7 c0 c1 f0 f1 d0 d1 e0 e1
    go_wp2_with fail
    refine (sameInts_any R.2 _ _ _ HI.out HJ.out).mono ?_
    rintro e w8 ⟨rfl, q8⟩
    replace bel := bel.trans (q8.mono bel.size)
    clear q8
    go_wp2_with fail
    go_ret
    exact ⟨rfl, bel⟩
  clear HJ Z
  obtain ⟨i0, hi, hz0, hz1, hz2⟩ := info_parts Try.infoMail
  have hsum := expunge_sum hbk
  have hnx := expunge_next hbk
  have hml := expunge_mail hbk
  have hmok := bok_mok hbk
  rw [HR.out] at hsum hnx hml
  have HS := Lib.hid hsum; have HNX := Lib.hid hnx; have HML := Lib.hid hml; have HMOK := Lib.hid hmok
  have HX := Lib.hid X; have HY := Lib.hid Y
  obtain ⟨c0, c1, f0, f1⟩ := X.cells
  have zx := X.lt
  obtain ⟨a', n', c', he, hn', hcc, _, hmail⟩ := X.mail
  cases he
  have HMAIL := Lib.hid hmail
  have HO := Lib.hid (own_new w6 w6.heap.size 35 3 (Nat.le_refl _))
  have Q6 := Lib.hid (show Below w6.heap.size w6 (w6.alloc (.cells #[] 35)) from (Below.refl _ _).alloc (Nat.le_refl _) _)
  clear HR hsum hnx hml hmok hbk X Y hmail hn' HI
  go_wp2_with fail
  go_loopg [8, 9] b.mail.length (fun gk out i wr => ∃ (n k cp g : Nat), n + gk = b.mail.length ∧ k ≤ n ∧ out = .slice (some ⟨g, 0, none⟩) k cp ∧ i = .int .i64 n ∧ Hid (((b.mail.take n).filter (fun m => !del m)).length = k) ∧ Hid (wr.ownsRow w6.heap.size 35 3 (.slice (some ⟨g, 0, none⟩) k cp) k (rowOf ((b.mail.take n).filter (fun m => !del m)))) ∧ Below w6.heap.size w6 wr)
  case atStart => exact ⟨0, 0, 0, _, by omega, by omega, rfl, rfl, rfl, HO.out, Q6.out⟩
  case round =>
    obtain ⟨n, k, cp, g, hng, hkn, rfl, rfl, HK, HR2, hq⟩ := hrel
    clear HO Q6 c0 c1 f0 f1
    obtain ⟨c0, c1, f0, f1⟩ := (HX.out.below hq).cells
    have zq := hq.size
    by_cases hlt : n < b.mail.length
    · rcases HMAIL.out with h0 | ⟨gm, off, rfl, hg, hcells⟩
      · exfalso; omega
      have hmm := List.getElem?_eq_getElem hlt
      have hmk := HMOK.out _ (List.getElem_mem hlt)
      have hst := filter_step hmm
      generalize b.mail[n] = m at hmm hmk hst
      obtain ⟨d0, d1, d2⟩ := hcells n _ hmm
      have d0 := (hq.cell (p := ⟨gm, _, none⟩) hg).trans d0
      have d1 := (hq.cell (p := ⟨gm, _, none⟩) hg).trans d1
      have d2 := (hq.cell (p := ⟨gm, _, none⟩) hg).trans d2
      have HST := Lib.hid hst
      have HD := Lib.hid (del_have hmk)
      have hnI : (n : Int) < (b.mail.length : Int) := by omega
      clear hcells hmm hmk hst
      go_wp2_with fail
      refine (implFlagsHave_any m.flags 8 _).mono ?_
      rintro e w' ⟨rfl, rfl⟩
      rw [HD.out]
      rcases hd : del m with _ | _
      · have hs2 : (b.mail.take (n + 1)).filter (fun m => !del m) = (b.mail.take n).filter (fun m => !del m) ++ [m] := by rw [HST.out, hd]; rfl
        have HS2 := Lib.hid hs2
        have hown : (wr.alloc (.cells #[.int .i64 m.uid, .int .i64 m.flags, .string m.text] 35)).ownsRow w6.heap.size 35 3 (.slice (some ⟨g, 0, none⟩) k cp) k (rowOf ((b.mail.take n).filter (fun m => !del m))) := HR2.out.alloc _
        have hnews : ∀ (j : Nat) u, (rowOf [m])[j]? = some u → (wr.alloc (.cells #[.int .i64 m.uid, .int .i64 m.flags, .string m.text] 35)).cell? ((⟨wr.heap.size, 0, none⟩ : Addr).add j) = some u := by
          intro j u hu
          rw [add_at, Nat.zero_add]
          exact cell_of_block (heap_alloc_new wr _) (by simpa [rowOf, mcells] using hu)
        have HO := Lib.hid hown; have HN := Lib.hid hnews
        clear hown hnews hs2 hd
        go_wp2_with (at_builtin; refine wpList_append_lies _ rfl _ _ _ rfl w6.heap.size 35 i0 (.agg #[.int .i64 0, .int .i64 0, .string ⟨#[]⟩]) 3 32 Try.underlying23 hi hz0 hz1 hz2 rfl (by omega) _ k _ rfl HO.out ⟨wr.heap.size, 0, none⟩ 1 1 (rowOf [m]) rfl rfl HN.out (rowOf_one _) (by omega) (by unfold maxLen; omega) (by omega) (by simp; omega) (wr.heap.size + 1) (by simp) ?_)
        intro g2 cap2 w7 hown7 hgrow hat hlt7
        have q7 : Below w6.heap.size w6 w7 := (hq.alloc hq.size _).grown hgrow (by simp; omega) (fun k hk => by simp [Value.ownBlock] at hk; have := row_base HO.out; omega)
        have r7 : w7.ownsRow w6.heap.size 35 3 (.slice (some ⟨g2, 0, none⟩) (k + 1) cap2) (k + 1) (rowOf ((b.mail.take (n + 1)).filter (fun m => !del m))) := by rw [HS2.out, rowOf_append]; exact hown7
        have k7 : ((b.mail.take (n + 1)).filter (fun m => !del m)).length = k + 1 := by rw [HS2.out, List.length_append, HK.out]; rfl
        have R7 := Lib.hid r7; have K7 := Lib.hid k7
        clear hown7 hgrow hat r7 k7 HO HN d0 d1 d2
        go_wp2_with fail
        go_roundg (gk - 1)
        case measure => omega
        case rel => exact ⟨n + 1, k + 1, cap2, g2, by omega, by omega, rfl, by go_num, K7.out, R7.out, q7⟩
      · have hs2 : (b.mail.take (n + 1)).filter (fun m => !del m) = (b.mail.take n).filter (fun m => !del m) := by rw [HST.out, hd]; simp
        have HS2 := Lib.hid hs2
        clear hs2 hd
        go_wp2_with fail
        go_roundg (gk - 1)
        case measure => omega
        case rel => exact ⟨n + 1, k, cp, g, by omega, by omega, rfl, by go_num, by rw [HS2.out]; exact HK.out, by rw [HS2.out]; exact HR2.out, hq⟩
    · have hn : n = b.mail.length := by omega
      have hfin : (b.mail.take n).filter (fun m => !del m) = R.1.mail := by rw [hn, List.take_length, HML.out]
      have hk2 : k = R.1.mail.length := by rw [← HK.out, hfin]
      have ho := HR2.out
      rw [hfin] at ho
      have hown : Own wr w6.heap.size (.slice (some ⟨g, 0, none⟩) k cp) R.1.mail := by unfold Own; rw [← hk2]; exact ho
      have hM := hown.mail (by omega)
      have HM := Lib.hid hM
      have HKK := Lib.hid hk2
      have HNN := Lib.hid hn
      have hY2 := HY.out.below hq
      have hM2 := hY2.mail
      have HM2 := Lib.hid hM2
      obtain ⟨y0, y1, y2, y3⟩ := hY2.cells
      have HY2 := Lib.hid hY2
      clear hM hfin hk2 ho hown hn hY2 hM2 HR2 HK
      go_wp2_with fail
      refine (sameMail_any R.1.mail _ _ _ HM2.out HM.out).mono ?_
      rintro e w8 ⟨rfl, q8⟩
      obtain ⟨y0, y1, y2, y3⟩ := (HY2.out.below q8).cells
      obtain ⟨c0, c1, f0, f1⟩ := ((HX.out.below hq).below q8).cells
      rw [HNX.out] at y0
      have bel8 := bel.trans ((hq.trans (q8.mono zq)).mono bel.size)
      have hs8 : (k : Int) + (R.2.length : Int) = (b.mail.length : Int) := by have := HS.out; have := HKK.out; omega
      have H8 := Lib.hid hs8
      clear hs8 q8
      go_wp2_with fail
      go_ret
      exact ⟨ret_bool (by rw [H8.out]; simp), bel8⟩
set_option maxHeartbeats 1000000 in
theorem fnExpungeNext.walk (a : Option Addr) (len cap : Nat) (hl : len ≤ cap) (hm : cap ≤ maxLen) (w : World) (hc : CodeAt w a len) :
    Calls Try.prog 6 #[.slice a len cap] w fun e w' => e = .returned (.bool true) ∧ Below w.heap.size w w' := by
  unfold maxLen at hm
  by_cases h1 : 1048576 < len
  · go_enter Try.func6, Try.ntmps6
    go_wp2_with fail
    all_goals go_ret
    all_goals exact ⟨rfl, Below.refl _ _⟩
  go_enter Try.func6, Try.ntmps6
  go_wp2_with fail
  refine (DrawBoxExpunge_any a len cap hl w hc).mono ?_
  clear hc
  rintro e w1 ⟨b, a1, cap1, rfl, hb, b1⟩
  have hl10 := hb.1.2.2
  obtain ⟨wx, hwx, X, qx, sx⟩ := new_box hb.2 (by omega)
  have bel := b1.trans (qx.mono b1.size)
  have s1 := b1.size
  have HW := Lib.hid hwx
  clear hwx hb b1 qx
  go_wp2_with fail
  rw [← HW.out]
  refine (implBoxExpunge_any b _ _ X.box).mono ?_
  rintro e w2 ⟨s, gi, ci, rfl, ho, hoi, q2⟩
  obtain ⟨a2, cap2, rfl⟩ := ho.slice
  obtain ⟨hle1, hle2⟩ := expunge_lens b hl10
  have hii := hoi.at (by omega)
  obtain ⟨R, hR⟩ : ∃ R, expunge b = R := ⟨_, rfl⟩
  rw [hR] at ho hii hle1 hle2 ⊢
  have HR := Lib.hid hR
  have HI := Lib.hid hii
  obtain ⟨wy, hwy, Y, qy, sy⟩ := new_box ho (by omega)
  replace X := X.below q2
  obtain ⟨c0, c1, f0, f1⟩ := X.cells
  have n1 := X.lt
  have s2 := q2.size
  replace bel := (bel.trans (q2.mono bel.size)).trans (qy.mono (Nat.le_trans bel.size q2.size))
  replace X := X.below qy
  replace HI := Lib.hid (HI.out.below qy)
  clear HW ho hoi hii q2 qy hR
  have HW := Lib.hid hwy
  clear hwy
  go_wp2_with fail
  rw [← HW.out]
  clear c0 c1 f0 f1
  refine (specBoxExpunge_any b _ _ X.box).mono ?_
  rintro e w3 ⟨s, vi, rfl, ho, hoi, q3⟩
  obtain ⟨a3, cap3, rfl⟩ := ho.slice
  obtain ⟨aj, cj, rfl⟩ := hoi.slice
  rw [HR.out] at ho hoi ⊢
  have hjj := hoi.at (by omega)
  obtain ⟨wz, hwz, Z, qz, sz⟩ := new_box ho (by omega)
  replace X := (X.below q3).below qz
  have HJ := Lib.hid (hjj.below qz)
  replace HI := Lib.hid ((HI.out.below q3).below qz)
  replace Y := Y.below q3
  obtain ⟨c0, c1, f0, f1⟩ := Y.cells
  have n2 := Y.lt
  have s3 := q3.size
  replace Y := Y.below qz
  replace bel := (bel.trans (q3.mono bel.size)).trans (qz.mono (Nat.le_trans bel.size q3.size))
  clear HW ho hoi hjj q3 qz
  have HW := Lib.hid hwz
  clear hwz
  go_wp2_with fail
  rw [← HW.out]
  clear c0 c1 f0 f1
  refine (sameBox_any R.1 _ _ _ Y.box Z.box).mono ?_
  rintro e w4 ⟨rfl, q4⟩
  replace X := X.below q4
  replace Y := Y.below q4
  replace Z := Z.below q4
  replace HI := Lib.hid (HI.out.below q4)
  replace HJ := Lib.hid (HJ.out.below q4)
  have s4 := q4.size
  replace bel := bel.trans (q4.mono bel.size)
  clear HW q4
  go_wp2_with fail
  refine (sameInts_any R.2 _ _ _ HI.out HJ.out).mono ?_
  rintro e w5 ⟨rfl, q5⟩
  replace X := X.below q5
  replace Y := Y.below q5
  replace Z := Z.below q5
  replace HI := Lib.hid (HI.out.below q5)
  replace HJ := Lib.hid (HJ.out.below q5)
  have s5 := q5.size
  replace bel := bel.trans (q5.mono bel.size)
  clear q5
  obtain ⟨c0, c1, f0, f1⟩ := X.cells
  go_wp2_with fail
  refine (specBoxValid_any b _ _ X.box).mono ?_
  rintro e w6 ⟨rfl, q6⟩
  replace X := X.below q6
  replace Y := Y.below q6
  replace Z := Z.below q6
  replace HI := Lib.hid (HI.out.below q6)
  replace HJ := Lib.hid (HJ.out.below q6)
  have s6 := q6.size
  replace bel := bel.trans (q6.mono bel.size)
  clear q6 c0 c1 f0 f1
  rcases hbk : bok b with _ | _
  ·
    obtain ⟨c0, c1, f0, f1⟩ := Y.cells
    obtain ⟨d0, d1, e0, e1⟩ := Z.cells
    go_wp2_with fail
    refine (sameBox_any R.1 _ _ _ Y.box Z.box).mono ?_
    rintro e w7 ⟨rfl, q7⟩
    replace HI := Lib.hid (HI.out.below q7)
    replace HJ := Lib.hid (HJ.out.below q7)
    replace bel := bel.trans (q7.mono bel.size)
    clear q7 c0 c1 f0 f1 d0 d1 e0 e1
    go_wp2_with fail
    refine (sameInts_any R.2 _ _ _ HI.out HJ.out).mono ?_
    rintro e w8 ⟨rfl, q8⟩
    replace bel := bel.trans (q8.mono bel.size)
    clear q8
    go_wp2_with fail
    go_ret
    exact ⟨rfl, bel⟩
  clear HJ Z
  have hok := expunge_bok hbk
  have hnx := expunge_next hbk
  rw [HR.out] at hok hnx
  have hle := appendTo_len R.1 0 ⟨#[]⟩ hle1
  have hyes := @appendTo_ok R.1 0 ⟨#[]⟩
  have hno := @appendTo_full R.1 0 ⟨#[]⟩
  obtain ⟨T, hT⟩ : ∃ T, appendTo R.1 0 ⟨#[]⟩ = T := ⟨_, rfl⟩
  rw [hT] at hle hyes hno
  have HT := Lib.hid hT; have HYES := Lib.hid hyes; have HNO := Lib.hid hno
  have HNX := Lib.hid hnx
  have P3 := Lib.hid (bok_facts hbk).2.2.1
  clear HR hbk HI hT hyes hno hnx
  obtain ⟨c0, c1, f0, f1⟩ := Y.cells
  go_wp2_with fail
  refine (implBoxAppend_any R.1 0 ⟨#[]⟩ _ _ Y.box).mono ?_
  rintro e w7 ⟨s, rfl, ho, q7⟩
  obtain ⟨a7, cap7, rfl⟩ := ho.slice
  rw [HT.out] at ho ⊢
  obtain ⟨wz, hwz, Z, qz, sz⟩ := new_box ho (by omega)
  replace X := (X.below q7).below qz
  replace Y := (Y.below q7).below qz
  have n7 := X.lt
  have s7 := q7.size
  replace bel := (bel.trans (q7.mono bel.size)).trans (qz.mono (Nat.le_trans bel.size q7.size))
  clear c0 c1 f0 f1 ho q7 qz
  rcases hT2 : T.2 with _ | _
  · obtain ⟨hTe, hfull⟩ := HNO.out hT2 hok rfl (by decide)
    have hgo : 99 < b.next ∨ (¬ 99 < b.next ∧ ((R.1.mail.length : Int) == 10) = true) := by
      have := HNX.out
      by_cases h : 99 < b.next
      · exact .inl h
      · right; exact ⟨h, by simp; omega⟩
    clear hfull hTe HYES HNO
    rcases hgo with hgo | ⟨hgo, hgo2⟩
    all_goals
      obtain ⟨c0, c1, f0, f1⟩ := X.cells
      obtain ⟨d0, d1, e0, e1⟩ := Y.cells
      rw [hwz] at c0 c1 d0 d1
      go_wp2_with fail
      go_ret
      exact ⟨rfl, by rw [← hwz]; exact bel⟩
  · obtain ⟨o1, o2, o3, o4, o5, hTe, o7⟩ := HYES.out hT2
    clear HYES HNO HT hT2
    subst hTe
    replace Z : BoxCell wz w7.heap.size _ ⟨R.1.next + 1, R.1.mail ++ [⟨R.1.next, 0, ⟨#[]⟩⟩]⟩ a7 cap7 := Z
    have hlen : (R.1.mail ++ [(⟨R.1.next, 0, ⟨#[]⟩⟩ : M)]).length = R.1.mail.length + 1 := by simp
    dsimp only at hwz ⊢
    rw [hlen] at hwz ⊢
    have HW := Lib.hid hwz
    obtain ⟨az, nz, cz, he, hnz, hcz, _, hzm⟩ := Z.mail
    cases he
    rcases hzm with h0 | ⟨gz, offz, rfl, hgz, hzc⟩
    · exfalso; dsimp only at h0; omega
    obtain ⟨z0, _, _⟩ := hzc R.1.mail.length ⟨R.1.next, 0, ⟨#[]⟩⟩ (by dsimp only; simp)
    dsimp only at z0
    rw [HNX.out] at z0
    obtain ⟨am, nm, cm, he, hnm, hcm, _, hmail⟩ := X.mail
    cases he
    have HMAIL := Lib.hid hmail
    have HX := Lib.hid X; have HY := Lib.hid Y; have HZ := Lib.hid Z
    have HLEN := Lib.hid hlen
    have Z0 := Lib.hid z0
    have hz1 : (R.1.mail.length : Int) < (R.1.mail.length : Int) + 1 := by omega
    clear hwz X Y Z hnz hcz hzc hnm hmail hlen z0
    go_wp2_with fail
    rw [← HW.out]
    go_loopw [10] (fun i wr => ∃ n : Nat, n ≤ b.mail.length ∧ i = .int .i64 n ∧ Below wz.heap.size wz wr) (fun i _ => b.mail.length - (intOf i).toNat)
    case atStart => exact ⟨0, by omega, rfl, Below.refl _ _⟩
    case round =>
      obtain ⟨n, hn, rfl, hq⟩ := hrel
      obtain ⟨c0, c1, f0, f1⟩ := (HX.out.below hq).cells
      obtain ⟨d0, d1, e0, e1⟩ := (HY.out.below hq).cells
      obtain ⟨g0, g1, i0, i1⟩ := (HZ.out.below hq).cells
      dsimp only at g1
      rw [HLEN.out] at g1
      have z0 := (hq.cell (p := ⟨gz, _, none⟩) hgz).trans Z0.out
      by_cases hlt : n < b.mail.length
      · rcases HMAIL.out with h0 | ⟨gm, off, rfl, hg, hcells⟩
        · exfalso; omega
        have hmm := List.getElem?_eq_getElem hlt
        have hm3 := P3.out _ (List.getElem_mem hlt)
        have hnI : (n : Int) < (b.mail.length : Int) := by omega
        generalize b.mail[n] = m at hmm hm3
        obtain ⟨m0, _, _⟩ := hcells n _ hmm
        have m0 := (hq.cell (p := ⟨gm, _, none⟩) hg).trans m0
        have hd : decide (b.next ≤ m.uid) = false := by simpa using hm3
        clear hmm hcells
        go_wp2_with fail
        go_quiet (fail)
        go_wp2_with fail
        go_roundw
        case rel => exact ⟨n + 1, by omega, by go_num, below_drewN hq _⟩
        case measure => simp [intOf]; omega
      · have hnn : n = b.mail.length := by omega
        have HNN := Lib.hid hnn
        clear hnn
        go_wp2_with fail
        go_ret
        exact ⟨rfl, bel.trans (hq.mono bel.size)⟩
end Go.Proofs.Ytojfalimohcebaa

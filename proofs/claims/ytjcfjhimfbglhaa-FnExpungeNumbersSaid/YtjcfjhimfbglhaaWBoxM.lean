/- WALK: the places of deleted messages, told one after the other. -/
import Derived.Test.YtjcfjhimfbglhaaPExpunge
import Derived.Test.YtjcfjhimfbglhaaBoxCell
import Derived.Test.YtjcfjhimfbglhaaExRm
import Derived.Test.YtjcfjhimfbglhaaExLaws
import Derived.Test.YtjcfjhimfbglhaaApp
import Derived.IntWalk
import Derived.Deep.DrawnRows
namespace Go.Proofs.Ytjcfjhimfbglhaa
open Go.RowKit
set_option linter.unusedVariables false
attribute [local go_sem ↓] Go.wp_at_zero Go.wp_at_succ

theorem OwnInts.slice {w : World} {base : Nat} {v : Value} {l : List Int} (h : OwnInts w base v l) : ∃ a cap, v = .slice a l.length cap := by
  rcases h.2 with ⟨h, h0⟩ | ⟨g, cap, cur, h, _⟩
  · exact ⟨none, 0, by rw [h0]; exact h⟩
  · exact ⟨_, cap, h⟩
set_option maxRecDepth 100000 in
set_option maxHeartbeats 2000000 in
theorem fnExpungeNumbers.walk (a : Option Addr) (len cap : Nat) (hl : len ≤ cap) (hm : cap ≤ maxLen) (w : World) (hc : CodeAt w a len) :
    Calls Try.prog 6 #[.slice a len cap] w fun e w' => e = .returned (.bool true) ∧ Below w.heap.size w w' := by
  unfold maxLen at hm
  by_cases h1 : 1048576 < len
  · go_enter Try.func6, Try.ntmps6
    go_wp2_with fail
    all_goals go_ret
    all_goals exact ⟨rfl, Below.refl _ _⟩
  go_enter Try.func6, Try.ntmps6
  go_wp2_with fail
  refine (DrawBoxExpunge_any a len cap hl w hc).mono ?_
  clear hc
  rintro e w1 ⟨b, a1, cap1, rfl, hb, b1⟩
  have hl10 := hb.1.2.2
  obtain ⟨wx, hwx, X, qx, sx⟩ := new_box hb.2 (by omega)
  have bel := b1.trans (qx.mono b1.size)
  have s1 := b1.size
  have HW := Lib.hid hwx
  clear hwx hb b1 qx
  go_wp2_with fail
  rw [← HW.out]
  refine (implBoxExpunge_any b _ _ X.box).mono ?_
  rintro e w2 ⟨s, gi, ci, rfl, ho, hoi, q2⟩
  obtain ⟨a2, cap2, rfl⟩ := ho.slice
  obtain ⟨hle1, hle2⟩ := expunge_lens b hl10
  have hii := hoi.at (by omega)
  obtain ⟨R, hR⟩ : ∃ R, expunge b = R := ⟨_, rfl⟩
  rw [hR] at ho hii hle1 hle2 ⊢
  have HR := Lib.hid hR
  have HI := Lib.hid hii
  obtain ⟨wy, hwy, Y, qy, sy⟩ := new_box ho (by omega)
  replace X := X.below q2
  obtain ⟨c0, c1, f0, f1⟩ := X.cells
  have n1 := X.lt
  have s2 := q2.size
  replace bel := (bel.trans (q2.mono bel.size)).trans (qy.mono (Nat.le_trans bel.size q2.size))
  replace X := X.below qy
  replace HI := Lib.hid (HI.out.below qy)
  clear HW ho hoi hii q2 qy hR
  have HW := Lib.hid hwy
  clear hwy
  go_wp2_with fail
  rw [← HW.out]
  clear c0 c1 f0 f1
  refine (specBoxExpunge_any b _ _ X.box).mono ?_
  rintro e w3 ⟨s, vi, rfl, ho, hoi, q3⟩
  obtain ⟨a3, cap3, rfl⟩ := ho.slice
  obtain ⟨aj, cj, rfl⟩ := hoi.slice
  rw [HR.out] at ho hoi ⊢
  have hjj := hoi.at (by omega)
  obtain ⟨wz, hwz, Z, qz, sz⟩ := new_box ho (by omega)
  replace X := (X.below q3).below qz
  have HJ := Lib.hid (hjj.below qz)
  replace HI := Lib.hid ((HI.out.below q3).below qz)
  replace Y := Y.below q3
  obtain ⟨c0, c1, f0, f1⟩ := Y.cells
  have n2 := Y.lt
  have s3 := q3.size
  replace Y := Y.below qz
  replace bel := (bel.trans (q3.mono bel.size)).trans (qz.mono (Nat.le_trans bel.size q3.size))
  clear HW ho hoi hjj q3 qz
  have HW := Lib.hid hwz
  clear hwz
  go_wp2_with fail
  rw [← HW.out]
  clear c0 c1 f0 f1
  refine (sameBox_any R.1 _ _ _ Y.box Z.box).mono ?_
  rintro e w4 ⟨rfl, q4⟩
  replace X := X.below q4
  replace Y := Y.below q4
  replace Z := Z.below q4
  replace HI := Lib.hid (HI.out.below q4)
  replace HJ := Lib.hid (HJ.out.below q4)
  have s4 := q4.size
  replace bel := bel.trans (q4.mono bel.size)
  clear HW q4
  go_wp2_with fail
  refine (sameInts_any R.2 _ _ _ HI.out HJ.out).mono ?_
  rintro e w5 ⟨rfl, q5⟩
  replace X := X.below q5
  replace Y := Y.below q5
  replace Z := Z.below q5
  replace HI := Lib.hid (HI.out.below q5)
  replace HJ := Lib.hid (HJ.out.below q5)
  have s5 := q5.size
  replace bel := bel.trans (q5.mono bel.size)
  clear q5
  obtain ⟨c0, c1, f0, f1⟩ := X.cells
  go_wp2_with fail
  refine (specBoxValid_any b _ _ X.box).mono ?_
  rintro e w6 ⟨rfl, q6⟩
  replace X := X.below q6
  replace Y := Y.below q6
  replace Z := Z.below q6
  replace HI := Lib.hid (HI.out.below q6)
  replace HJ := Lib.hid (HJ.out.below q6)
  have s6 := q6.size
  replace bel := bel.trans (q6.mono bel.size)
  clear q6 c0 c1 f0 f1
  rcases hbk : bok b with _ | _
  ·
    obtain ⟨c0, c1, f0, f1⟩ := Y.cells
    obtain ⟨d0, d1, e0, e1⟩ := Z.cells
    go_wp2_with fail
    refine (sameBox_any R.1 _ _ _ Y.box Z.box).mono ?_
    rintro e w7 ⟨rfl, q7⟩
    replace HI := Lib.hid (HI.out.below q7)
    replace HJ := Lib.hid (HJ.out.below q7)
    replace bel := bel.trans (q7.mono bel.size)
    clear q7 c0 c1 f0 f1 d0 d1 e0 e1
    go_wp2_with fail
    refine (sameInts_any R.2 _ _ _ HI.out HJ.out).mono ?_
    rintro e w8 ⟨rfl, q8⟩
    replace bel := bel.trans (q8.mono bel.size)
    clear q8
    go_wp2_with fail
    go_ret
    exact ⟨rfl, bel⟩
  clear HJ Z
  obtain ⟨i0, hi, hz0, hz1, hz2⟩ := info_parts Try.infoMail
  have hrm := expunge_rm hbk
  rw [HR.out] at hrm
  have HRM := Lib.hid hrm
  have HX := Lib.hid X; have HY := Lib.hid Y
  obtain ⟨c0, c1, f0, f1⟩ := X.cells
  have hbl : b.mail.length ≤ 10 := hl10
  have zx := X.lt
  have HO := Lib.hid (own_new w6 w6.heap.size 60 3 (Nat.le_refl _))
  have HS := Lib.hid (X.mail.src.below ((Below.refl w6.heap.size w6).alloc (Nat.le_refl _) (.cells #[] 60)))
  clear HR hrm hbk X Y
  go_wp2_with (at_builtin; refine wpList_append_any rfl _ _ 27 rfl w6.heap.size 60 i0 (.agg #[.int .i64 0, .int .i64 0, .string ⟨#[]⟩]) 3 32 Try.underlying27 hi hz0 hz1 hz2 rfl (by decide) w6.heap.size 0 0 [] rfl HO.out a1 b.mail.length cap1 (rowOf b.mail) rfl (rowOf_length _) HS.out (rowOf_one _) (by unfold maxLen; omega) (by omega) (by simp) ?_)
  intro g7 cap7 w7 hown7 hgrow
  have q7 : Below w6.heap.size w6 w7 := ((Below.refl _ _).alloc (Nat.le_refl _) _).grown hgrow (by simp) (fun k hk => by cases hk; exact Nat.le_refl _)
  have ho7 : Own w7 w6.heap.size (.slice (some ⟨g7, 0, none⟩) b.mail.length cap7) b.mail := by
    unfold Own
    simpa only [Nat.zero_add, List.nil_append] using hown7
  have HO7 := Lib.hid ho7
  clear hown7 hgrow ho7 HO HS c0 c1 f0 f1
  go_wp2_with fail
  go_loopg [8, 9] R.2.length (fun gk left i wr => ∃ (n k cp g : Nat) (cur : List M), n + gk = R.2.length ∧ k ≤ 10 ∧ left = .slice (some ⟨g, 0, none⟩) k cp ∧ i = .int .i64 n ∧ Hid (cur.length = k) ∧ Hid (Own wr w6.heap.size (.slice (some ⟨g, 0, none⟩) k cp) cur) ∧ Hid (RmOk cur (R.2.drop n) ∧ rms cur (R.2.drop n) = R.1.mail) ∧ Below w6.heap.size w6 wr)
  case atStart => exact ⟨0, b.mail.length, cap7, g7, b.mail, by omega, by omega, rfl, rfl, rfl, HO7.out, ⟨HRM.out.2, HRM.out.1⟩, q7⟩
  case round =>
    obtain ⟨n, k, cp, g, cur, hng, hk10, rfl, rfl, HK, HO2, HRM2, hq⟩ := hrel
    clear HO7 q7
    have zq := hq.size
    by_cases hlt : n < R.2.length
    · obtain ⟨j, hgj, hjk, hrm1, hrm2⟩ := rm_next hlt HRM2.out.1 HRM2.out.2
      rw [HK.out] at hjk
      have hj : j < k := hjk
      obtain ⟨ai, ni, cii, he, hni, _, _, hcc⟩ := HI.out.below hq
      cases he
      rcases hcc with h0 | ⟨gb, off, he, hgb, hcc⟩
      · exfalso; omega
      cases he
      have cc := hcc n _ (List.getElem?_eq_getElem hlt)
      rw [hgj, Nat.zero_add] at cc
      obtain ⟨G, hG⟩ : ∃ G : Nat, G = j + 1 := ⟨_, rfl⟩
      have hGi : (j : Int) + 1 = (G : Int) := by omega
      rw [hGi] at cc
      have cl : gi < wr.heap.size := hgb
      rw [← hG] at hrm1 hrm2
      have HRM3 := Lib.hid (And.intro hrm1 hrm2)
      have hM := HO2.out.mail (by rw [HK.out]; omega)
      have HT := Lib.hid (MailAt.take hM (Nat.le_of_lt hj)).src
      have n0 : (0 : Int) ≤ (n : Int) := Int.natCast_nonneg _
      have n1 : (n : Int) < (R.2.length : Int) := by omega
      have hkc : k ≤ cp := by obtain ⟨_, _, _, he, _, h, _⟩ := hM; cases he; exact h
      have hkl : cur.length = k := HK.out
      have x2 : IntKind.i64.wrap ((G : Int) - 1) = (j : Int) := by rw [show (G : Int) - 1 = (j : Int) from by omega]; exact IntWalk.i64_in _ (by omega)
      have j0 : (0 : Int) ≤ (j : Int) := Int.natCast_nonneg _
      have g0 : (1 : Int) ≤ (G : Int) := by omega
      have g00 : (0 : Int) ≤ (G : Int) := by omega
      have hjc : (j : Int) ≤ (cp : Int) := by omega
      have hjG : j < G := by omega
      have hll : (cur.take j ++ cur.drop G).length = j + (k - G) := by rw [List.length_append, List.length_take, List.length_drop]; omega
      have htl : (cur.take j).length = j := by rw [List.length_take]; omega
      have HLL := Lib.hid hll; have HTL := Lib.hid htl
      clear htl
      by_cases hcj : cp = G
      · have hkg : k = G := by omega
        have HD : Hid (∀ W : World, Below wr.heap.size wr W → Src W (some ⟨g, 0, none⟩) 0 0 []) := fun W hW => .inr ⟨_, rfl, fun j u hu => by simp at hu⟩
        have hnil : cur.drop G = [] := List.drop_eq_nil_of_le (by omega)
        rw [hnil, List.append_nil] at HRM3
        have HNIL := Lib.hid hnil
        subst hcj
        subst hkg
        have HG := Lib.hid hG
        have CC := Lib.hid cc
        clear hM hni hcc hgb hkl hgj hjk hrm1 hrm2 HRM2 hnil hG hGi hll
        go_upto_region 14 with fail
        go_region_held3 (fun W => W.cell? ⟨gi, n, none⟩ = some (.int .i64 (k : Int))) (first | exact cc | (go_keep; done))
          (first
          | (have hx := HA; refine step_append_any (by rfl) _ _ _ (by rfl) wr.heap.size 60 i0 (.agg #[.int .i64 0, .int .i64 0, .string ⟨#[]⟩]) 3 32 Try.underlying27 hi hz0 hz1 hz2 rfl (by decide) gA cA _ _ (by rfl) (by first | exact HA.out | exact HA.out.drew) _ _ _ [] (by rfl) (by simp) (HD.out _ (B8.out.trans (by go_grown))) (rowOf_one []) (by unfold maxLen; omega) (by omega) s8 ?_; intro gB cB w9 hown9 hgrow; have b9 : Below wr.heap.size wr w9 := Below.grown B8.out hgrow s8 (fun k hk => by cases hk; exact (HA.out.lt _ rfl).1); have cc := (b9.cell (p := ⟨gi, n, none⟩) cl).trans CC.out; have HB := Lib.hid hown9; have B9 := Lib.hid b9; clear hx HA hown9 hgrow b9)
          | ((fail_if_success (have hx := HA)); (fail_if_success (have hx := HB)); refine step_append_any (by rfl) _ _ _ (by rfl) wr.heap.size 60 i0 (.agg #[.int .i64 0, .int .i64 0, .string ⟨#[]⟩]) 3 32 Try.underlying27 hi hz0 hz1 hz2 rfl (by decide) wr.heap.size 0 0 [] (by rfl) (by first | exact own_new _ _ _ _ (Nat.le_refl _) | exact World.ownsRow.drew (own_new _ _ _ _ (Nat.le_refl _))) (some ⟨g, 0, none⟩) j _ (rowOf (cur.take j)) (by rfl) (by rw [rowOf_length, List.length_take, HK.out, Nat.min_eq_left (Nat.le_of_lt hj)]) (HT.out.below (by go_grown)) (rowOf_one _) (by unfold maxLen; omega) (by omega) (by first | (simp; done) | (show _ ≤ (wr.alloc _).heap.size; simp)) ?_; intro gA cA w8 hown8 hgrow;  have b8 : Below wr.heap.size wr w8 := Below.grown (by go_grown) hgrow (by first | (simp; done) | (show _ ≤ (wr.alloc _).heap.size; simp)) (fun k hk => by cases hk; exact Nat.le_refl _); have cc := (b8.cell (p := ⟨gi, n, none⟩) cl).trans CC.out; simp only [Nat.zero_add, List.nil_append] at hown8 ⊢; have HA := Lib.hid hown8; have B8 := Lib.hid b8; have s8 := b8.size; clear hown8 hgrow b8))
        have ho9 : Own w9 w6.heap.size (.slice (some ⟨gB, 0, none⟩) j cB) (cur.take j) := by
          refine Own.more (base := wr.heap.size) ?_ hq.size
          have h := HB.out
          unfold Own
          rw [HTL.out]
          simpa using h
        have HO9 := Lib.hid ho9
        have q9 := hq.trans (B9.out.mono hq.size)
        clear ho9
        go_wp2_with fail
        go_roundg (gk - 1)
        case measure => omega
        case rel => exact ⟨n + 1, j, cB, gB, cur.take j, by omega, by omega, rfl, by go_num, HTL.out, HO9.out, HRM3.out, q9⟩
      · have hM2 := fun W hW => (MailAt.drop hM (k := G) (by omega)).src.below (w' := W) hW
        have HD := Lib.hid hM2
        have CC := Lib.hid cc
        have hGk : (G : Int) ≤ (k : Int) := by omega
        have hGc : (G : Int) ≤ (cp : Int) := by omega
        have hkcI : (k : Int) ≤ (cp : Int) := by omega
        have hnl : (rowOf (cur.drop G)).length = (k - G) * 3 := by rw [rowOf_length, List.length_drop, hkl]
        have HNL := Lib.hid hnl
        have HG := Lib.hid hG
        clear hM hM2 hni hcc hgb hkl hgj hjk hrm1 hrm2 HRM2 hG hGi hll hnl
        go_upto_region 14 with fail
        go_region_held3 (fun W => W.cell? ⟨gi, n, none⟩ = some (.int .i64 (G : Int))) (first | exact cc | (go_keep; done))
          (first
          | (have hx := HA; refine step_append_any (by rfl) _ _ _ (by rfl) wr.heap.size 60 i0 (.agg #[.int .i64 0, .int .i64 0, .string ⟨#[]⟩]) 3 32 Try.underlying27 hi hz0 hz1 hz2 rfl (by decide) gA cA _ _ (by rfl) (by first | exact HA.out | exact HA.out.drew) _ _ _ (rowOf (cur.drop G)) (by rfl) HNL.out (HD.out _ (B8.out.trans (by go_grown))) (rowOf_one _) (by unfold maxLen; omega) (by omega) s8 ?_; intro gB cB w9 hown9 hgrow; have b9 : Below wr.heap.size wr w9 := Below.grown B8.out hgrow s8 (fun k hk => by cases hk; exact (HA.out.lt _ rfl).1); have cc := (b9.cell (p := ⟨gi, n, none⟩) cl).trans CC.out; have HB := Lib.hid hown9; have B9 := Lib.hid b9; clear hx HA hown9 hgrow b9)
          | ((fail_if_success (have hx := HA)); (fail_if_success (have hx := HB)); refine step_append_any (by rfl) _ _ _ (by rfl) wr.heap.size 60 i0 (.agg #[.int .i64 0, .int .i64 0, .string ⟨#[]⟩]) 3 32 Try.underlying27 hi hz0 hz1 hz2 rfl (by decide) wr.heap.size 0 0 [] (by rfl) (by first | exact own_new _ _ _ _ (Nat.le_refl _) | exact World.ownsRow.drew (own_new _ _ _ _ (Nat.le_refl _))) (some ⟨g, 0, none⟩) j _ (rowOf (cur.take j)) (by rfl) (by rw [rowOf_length, List.length_take, HK.out, Nat.min_eq_left (Nat.le_of_lt hj)]) (HT.out.below (by go_grown)) (rowOf_one _) (by unfold maxLen; omega) (by omega) (by first | (simp; done) | (show _ ≤ (wr.alloc _).heap.size; simp)) ?_; intro gA cA w8 hown8 hgrow;  have b8 : Below wr.heap.size wr w8 := Below.grown (by go_grown) hgrow (by first | (simp; done) | (show _ ≤ (wr.alloc _).heap.size; simp)) (fun k hk => by cases hk; exact Nat.le_refl _); have cc := (b8.cell (p := ⟨gi, n, none⟩) cl).trans CC.out; simp only [Nat.zero_add, List.nil_append] at hown8 ⊢; have HA := Lib.hid hown8; have B8 := Lib.hid b8; have s8 := b8.size; clear hown8 hgrow b8))
        have ho9 : Own w9 w6.heap.size (.slice (some ⟨gB, 0, none⟩) (j + (k - G)) cB) (cur.take j ++ cur.drop G) := by
          refine Own.more (base := wr.heap.size) ?_ hq.size
          have h := HB.out
          unfold Own
          rw [HLL.out, rowOf_append]
          exact h
        have HO9 := Lib.hid ho9
        have q9 := hq.trans (B9.out.mono hq.size)
        clear ho9
        go_wp2_with fail
        go_roundg (gk - 1)
        case measure => omega
        case rel => exact ⟨n + 1, j + (k - G), cB, gB, cur.take j ++ cur.drop G, by omega, by omega, rfl, by go_num, HLL.out, HO9.out, HRM3.out, q9⟩
    · have hn : n = R.2.length := by omega
      have hfin : cur = R.1.mail := by
        have h := HRM2.out.2
        rw [hn, List.drop_length] at h
        exact h
      have hk2 : k = R.1.mail.length := by rw [← HK.out, hfin]
      have ho := HO2.out
      rw [hfin] at ho
      have hM := ho.mail (by omega)
      have HM := Lib.hid hM
      have HNN := Lib.hid hn
      have hY2 := HY.out.below hq
      have HM2 := Lib.hid hY2.mail
      obtain ⟨y0, y1, y2, y3⟩ := hY2.cells
      have zy := hY2.lt
      clear hM hfin hk2 ho hn hY2 HO2 HK HRM2
      go_wp2_with fail
      refine (sameMail_any R.1.mail _ _ _ HM2.out HM.out).mono ?_
      rintro e w8 ⟨rfl, q8⟩
      have bel8 := bel.trans ((hq.trans (q8.mono zq)).mono bel.size)
      clear q8
      go_wp2_with fail
      go_ret
      exact ⟨rfl, bel8⟩
end Go.Proofs.Ytjcfjhimfbglhaa

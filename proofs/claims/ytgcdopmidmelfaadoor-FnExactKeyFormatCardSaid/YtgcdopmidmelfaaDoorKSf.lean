/- WALKS: the reference writes a key. -/
import Derived.Test.YtgcdopmidmelfaaDoorKSp
import Derived.Test.YtgcdopmidmelfaaDoorKEq
import Derived.Deep.RegionHeld3
namespace Go.Proofs.YtgcdopmidmelfaaDoor
open Go.RowKit
set_option linter.unusedVariables false
/-- A key's text, its first so many keys. -/
def fmtTo (k : K) (n : Nat) : List UInt8 := headK k ++ ((k.keys.take n).map fun c => 32 :: fmtK c).flatten
theorem fmtTo_zero (k : K) : fmtTo k 0 = headK k := by simp [fmtTo]
theorem fmtTo_succ {k : K} {n : Nat} (h : n < k.keys.length) : fmtTo k (n + 1) = fmtTo k n ++ [32] ++ fmtK k.keys[n] := by
  unfold fmtTo
  rw [List.take_succ_eq_append_getElem h, List.map_append, List.flatten_append]; simp
theorem fmtTo_all (k : K) : fmtTo k k.keys.length = fmtK k := by unfold fmtTo; rw [List.take_length, fmtK_eq]
theorem fmtTo_len (k : K) : ∀ n, (fmtTo k n).length ≤ (fmtK k).length := by
  intro n
  rw [fmtK_eq]
  unfold fmtTo
  have h : ((k.keys.map fun c => 32 :: fmtK c).flatten).length = (((k.keys.take n).map fun c => 32 :: fmtK c).flatten).length + (((k.keys.drop n).map fun c => 32 :: fmtK c).flatten).length := by
    conv => lhs; rw [← List.take_append_drop n k.keys]
    rw [List.map_append, List.flatten_append, List.length_append]
  rw [List.length_append, List.length_append]; omega
def lowN (k : Nat) : List UInt8 := match k with | 0 => [115, 101, 101, 110] | 1 => [97, 110, 115, 119, 101, 114, 101, 100] | 2 => [102, 108, 97, 103, 103, 101, 100] | 3 => [100, 101, 108, 101, 116, 101, 100] | _ => [100, 114, 97, 102, 116]
def lowTo (f : Int) : Nat → List UInt8
  | 0 => []
  | k + 1 => if ((2 ^ k : Nat) : Int) = f then lowN k else lowTo f k
theorem lowTo_all {f : Int} (h : flag1 f = true) : lowTo f 5 = fwordL f := by
  simp [flag1] at h
  rcases h with (((h | h) | h) | h) | h <;> subst h <;> decide
theorem node_f {k : K} (h : nodeOk k = true) (hk : k.kind = 1) : flag1 k.flag = true := by
  unfold nodeOk nodeB at h
  rw [Bool.and_eq_true] at h
  have h2 := h.2
  rw [if_neg (by omega), if_pos hk, Bool.and_eq_true] at h2
  exact h2.1
theorem lowTo_len (f : Int) : ∀ k, (lowTo f k).length ≤ 8
  | 0 => by simp [lowTo]
  | k + 1 => by
    rw [lowTo]; split
    · unfold lowN; split <;> simp
    · exact lowTo_len f k
theorem l4Bit_at (n : Nat) (hn : n < 5) {p : Nat} (hp : 2 ^ n = p) (w : World) :
    Calls Tryd.prog 27 #[.int .i64 n] w fun e w' => e = .returned (.int .i64 (p : Int)) ∧ Below w.heap.size w w' := by
  have h := l4Bit_any (n : Int) (by omega) (by omega) w
  rw [Int.toNat_natCast, hp] at h
  exact h
set_option maxRecDepth 100000 in
set_option maxHeartbeats 4000000 in
theorem l12Format_any (k : K) : k.allOk = true → k.nodes ≤ 1000 → ∀ (v : Value) (S : Nat → Prop) (w : World), KeyAt w S k v → Ins S w → Calls Tryd.prog 21 #[v] w (Writes w k) := by
  induction k using K.ind with
  | h k ih =>
    intro hok hnn v S w h hN
    have hnode : nodeOk k = true := by rw [K.allOk_eq, Bool.and_eq_true] at hok; exact hok.2
    have hsub : ∀ c ∈ k.keys, c.allOk = true := by rw [K.allOk_eq, Bool.and_eq_true] at hok; exact List.all_eq_true.1 hok.1
    have hfl : (fmtK k).length ≤ 60000 := by have := fmt_len k hok; omega
    obtain ⟨g0, g7, g4, g5, g6⟩ := node_cases hnode
    have IH := Lib.hid (fun c (hc : c ∈ k.keys) => ih c hc (hsub c hc) (Nat.le_trans (nodes_mem hc) hnn))
    have LEN := Lib.hid (fun c (hc : c ∈ k.keys) => (show (fmtK c).length ≤ 60000 by have := fmt_len c (hsub c hc); have := nodes_mem hc; omega))
    rw [KeyAt] at h
    obtain ⟨sv, a, L, cap, rfl, hset, hL, hc, ⟨hm, _⟩, hkeys⟩ := h
    have HSET := Lib.hid hset
    obtain ⟨sa, sn, sc, rfl, _⟩ := hset
    have hL2 : L ≤ 2 := by omega
    have HNO := Lib.hid hnode; have HN := Lib.hid hN; have HL := Lib.hid hL; have HK := Lib.hid (show KeysAt w S k a L from hkeys); have HFL := Lib.hid hfl
    clear hnode ih hsub hok hN hL hkeys hfl g4 g5 g6
    have hcase : k.kind = 0 ∨ k.kind = 1 ∨ k.kind = 2 ∨ k.kind = 3 ∨ k.kind = 4 ∨ k.kind = 5 ∨ k.kind = 6 ∨ k.kind = 7 := by omega
    clear g0 g7
    rcases hcase with hk | hk | hk | hk | hk | hk | hk | hk
    · have HF := Lib.hid (show headK k = [97, 108, 108] by unfold headK; rw [if_pos hk])
      generalize hg : k.kind = kd at hk
      subst hk
      obtain ⟨w1, hw1⟩ : ∃ w1, w1 = w.alloc (.cells #[.int .i64 0, .int .i64 k.flag, .string k.text, .slice sa sn sc, .slice a L cap] 31) := ⟨_, rfl⟩
      have bel : Below w.heap.size w w1 := by rw [hw1]; go_grown
      have r0 : RowAt w1 w.heap.size 31 #[.int .i64 0, .int .i64 k.flag, .string k.text, .slice sa sn sc, .slice a L cap] := by unfold RowAt; rw [hw1]; exact heap_alloc_new w _
      have hlt1 := r0.lt
      have HW := Lib.hid hw1; have R0 := Lib.hid r0
      clear hw1 r0
      go_enter Tryd.func21, Tryd.ntmps21
      obtain ⟨hd, hhd, hhs⟩ : ∃ hd : ByteArray, (⟨#[97, 108, 108]⟩ : ByteArray) = hd ∧ StrIs hd (headK k) := ⟨_, rfl, by rw [HF.out]; rfl⟩
      go_wp2_with fail
      rw [hhd, ← HW.out]
      have R1 := R0
      have belq := bel
      clear HW R0
      go_loopw [3, 6] (fun out i wr => ∃ (n : Nat) (x : ByteArray), n ≤ L ∧ i = .int .i64 n ∧ out = .string x ∧ x.size ≤ 60000 ∧ Hid (StrIs x (fmtTo k n)) ∧ Hid (Below w1.heap.size w1 wr)) (fun _ i _ => L - (intOf i).toNat)
      case atStart => exact ⟨0, _, by omega, rfl, rfl, by rw [strSize hhs, ← fmtTo_zero]; exact Nat.le_trans (fmtTo_len k 0) HFL.out, by rw [fmtTo_zero]; exact hhs, Below.refl _ _⟩
      case round =>
        obtain ⟨n, x, hn, rfl, rfl, hxz, HX, HQ⟩ := hrel
        have q0 := belq.trans (HQ.out.mono belq.size)
        obtain ⟨⟨e0, e1, e2, e3, e4⟩, _⟩ := fiveC (R1.out.below HQ.out)
        by_cases hlt : n < L
        · rcases HK.out with h0 | ⟨g, off, rfl, hg, hcells⟩
          · omega
          replace hg := HN.out _ hg
          have hlt' : n < k.keys.length := by rw [HL.out]; exact hlt
          obtain ⟨v0, v1, v2, v3, v4, c0, c1, c2, c3, c4, hk⟩ := hcells n hlt'
          have HS := Lib.hid (fmtTo_succ hlt')
          have hfl2 := fmtTo_len k (n + 1)
          have HC := Lib.hid (IH.out _ (List.getElem_mem hlt') _ S wr (hk.below HN.out q0) (HN.out.below q0))
          generalize k.keys[n] = c at *
          replace c0 := (q0.cell (p := ⟨g, _, none⟩) hg).trans c0
          replace c1 := (q0.cell (p := ⟨g, _, none⟩) hg).trans c1
          replace c2 := (q0.cell (p := ⟨g, _, none⟩) hg).trans c2
          replace c3 := (q0.cell (p := ⟨g, _, none⟩) hg).trans c3
          replace c4 := (q0.cell (p := ⟨g, _, none⟩) hg).trans c4
          have hnI : (n : Int) < (L : Int) := by omega
          have h32 : (⟨#[32]⟩ : ByteArray).size = 1 := rfl
          clear hcells hk hhs
          go_wp2_with fail
          refine HC.out.mono ?_
          rintro e w2 ⟨s, rfl, hs, q2⟩
          have hst : StrIs (x ++ (⟨#[32]⟩ : ByteArray) ++ s) (fmtTo k (n + 1)) := by rw [HS.out]; exact strApp (strApp HX.out rfl) hs
          have hsz := strSize hst
          have hsz2 : x.size + 1 + s.size ≤ 60000 := by rw [ByteArray.size_append, ByteArray.size_append, h32] at hsz; have := HFL.out; omega
          have HST := Lib.hid hst
          have HQ2 := Lib.hid (HQ.out.trans (q2.mono HQ.out.size))
          clear c0 c1 c2 c3 c4 q2 HC hst hsz hs
          go_wp2_with fail
          go_roundw
          case rel => exact ⟨n + 1, _, by omega, by go_num, rfl, by simp only [ByteArray.size_append, h32]; omega, HST, HQ2⟩
          case measure => simp [intOf]; omega
        · have hnn : n = k.keys.length := by rw [HL.out]; omega
          have hx := HX.out
          rw [hnn, fmtTo_all] at hx
          have HXX := Lib.hid hx
          clear hx hnn HX hhs
          go_wp2_with fail
          go_ret
          exact ⟨x, rfl, HXX.out, q0⟩
    · have HF := Lib.hid (show headK k = fwordL k.flag by unfold headK; rw [if_neg (by omega), if_pos hk])
      have HFL1 := Lib.hid (node_f HNO.out hk)
      generalize hg : k.kind = kd at hk
      subst hk
      obtain ⟨w1, hw1⟩ : ∃ w1, w1 = w.alloc (.cells #[.int .i64 1, .int .i64 k.flag, .string k.text, .slice sa sn sc, .slice a L cap] 31) := ⟨_, rfl⟩
      have bel : Below w.heap.size w w1 := by rw [hw1]; go_grown
      have r0 : RowAt w1 w.heap.size 31 #[.int .i64 1, .int .i64 k.flag, .string k.text, .slice sa sn sc, .slice a L cap] := by unfold RowAt; rw [hw1]; exact heap_alloc_new w _
      have hlt1 := r0.lt
      have HW := Lib.hid hw1; have R0 := Lib.hid r0
      clear hw1 r0
      go_enter Tryd.func21, Tryd.ntmps21
      obtain ⟨wn, hwn⟩ : ∃ wn, wn = w1.alloc (.cells #[.string ⟨#[115, 101, 101, 110]⟩, .string ⟨#[97, 110, 115, 119, 101, 114, 101, 100]⟩, .string ⟨#[102, 108, 97, 103, 103, 101, 100]⟩, .string ⟨#[100, 101, 108, 101, 116, 101, 100]⟩, .string ⟨#[100, 114, 97, 102, 116]⟩] 9) := ⟨_, rfl⟩
      have beln : Below w.heap.size w wn := by rw [hwn]; exact bel.alloc bel.size _
      have rn : RowAt wn w1.heap.size 9 #[.string ⟨#[115, 101, 101, 110]⟩, .string ⟨#[97, 110, 115, 119, 101, 114, 101, 100]⟩, .string ⟨#[102, 108, 97, 103, 103, 101, 100]⟩, .string ⟨#[100, 101, 108, 101, 116, 101, 100]⟩, .string ⟨#[100, 114, 97, 102, 116]⟩] := by unfold RowAt; rw [hwn]; exact heap_alloc_new w1 _
      have r1 : RowAt wn w.heap.size 31 #[.int .i64 1, .int .i64 k.flag, .string k.text, .slice sa sn sc, .slice a L cap] := by rw [hwn]; exact R0.out.below ((Below.refl _ _).alloc (Nat.le_refl _) _)
      have hnm : ∀ j, j < 5 → ∃ y, wn.cell? ⟨w1.heap.size, j, none⟩ = some (.string y) ∧ StrIs y (lowN j) := by
        intro j hj
        have h5 : j = 0 ∨ j = 1 ∨ j = 2 ∨ j = 3 ∨ j = 4 := by omega
        rcases h5 with rfl | rfl | rfl | rfl | rfl
        · exact ⟨_, rn.cell (j := 0) rfl, rfl⟩
        · exact ⟨_, rn.cell (j := 1) rfl, rfl⟩
        · exact ⟨_, rn.cell (j := 2) rfl, rfl⟩
        · exact ⟨_, rn.cell (j := 3) rfl, rfl⟩
        · exact ⟨_, rn.cell (j := 4) rfl, rfl⟩
      have hln := rn.lt
      have HWN := Lib.hid hwn; have RB := Lib.hid r1
      clear hwn rn r1
      have hN1 : w1.heap.size = w.heap.size + 1 := by rw [HW.out]; simp
      rw [hN1] at hln
      have HNM := Lib.hid (show ∀ j, j < 5 → ∃ y, wn.cell? ⟨w.heap.size + 1, j, none⟩ = some (.string y) ∧ StrIs y (lowN j) by rw [← hN1]; exact hnm)
      clear hnm hN1
      go_wp2_with fail
      rw [← HW.out]
      try rw [← HWN.out]
      go_loopw [3, 5] (fun out i wr => ∃ (n : Nat) (x : ByteArray), n ≤ 5 ∧ i = .int .i64 n ∧ out = .string x ∧ Hid (StrIs x (lowTo k.flag n)) ∧ Hid (Below wn.heap.size wn wr)) (fun _ i _ => 5 - (intOf i).toNat)
      case atStart => exact ⟨0, _, by omega, rfl, rfl, rfl, Below.refl _ _⟩
      case round =>
        obtain ⟨n, x, hn, rfl, rfl, HX, HQ⟩ := hrel
        obtain ⟨⟨e0, e1, e2, e3, e4⟩, _⟩ := fiveC (RB.out.below HQ.out)
        by_cases hlt : n < 5
        · obtain ⟨y, hy, hys⟩ := HNM.out n hlt
          replace hy := (HQ.out.cell (p := ⟨w.heap.size + 1, n, none⟩) hln).trans hy
          have HYS := Lib.hid hys
          obtain ⟨p, hp⟩ : ∃ p, 2 ^ n = p := ⟨_, rfl⟩
          have HP := Lib.hid hp
          have HB := Lib.hid (fun W => l4Bit_at n hlt hp W)
          have n0 : (0 : Int) ≤ (n : Int) := Int.natCast_nonneg _
          have n5 : (n : Int) < 5 := by omega
          have hlq : w.heap.size + 1 < wr.heap.size := Nat.lt_of_lt_of_le hln HQ.out.size
          have hlw : w.heap.size < wr.heap.size := by have := beln.size; have := HQ.out.size; omega
          clear hys hp
          go_upto_region 10 with fail
          go_region_held3 (fun W => W.cell? ⟨w.heap.size, 1, none⟩ = some (.int .i64 k.flag)) (first | exact e1 | (go_keep; done))
            ((go_at_call 27; refine (HB.out _).mono ?_; rintro e w2 ⟨rfl, q2⟩; have q3 : Below wr.heap.size wr w2 := Below.trans (by go_grown) (q2.mono (by first | exact Nat.le_refl _ | (show _ ≤ wr.heap.size; exact Nat.le_refl _))); clear e0 e1 e2 e3 e4; obtain ⟨⟨e0, e1, e2, e3, e4⟩, _⟩ := fiveC ((RB.out.below HQ.out).below q3); have hy2 := (q3.cell (p := ⟨w.heap.size + 1, n, none⟩) hlq).trans hy; have Q3 := Lib.hid q3; clear q2 q3))
          have HQ2 := Lib.hid (HQ.out.trans (Q3.out.mono HQ.out.size))
          by_cases hf : (p : Int) = k.flag
          · have hb : ((p : Int) == k.flag) = true := beq_iff_eq.2 hf
            have HL2 := Lib.hid (show StrIs y (lowTo k.flag (n + 1)) by rw [lowTo, HP.out, if_pos hf]; exact HYS.out)
            clear hf hy
            go_wp2_with fail
            go_roundw
            case rel => exact ⟨n + 1, y, by omega, by go_num, rfl, HL2, HQ2⟩
            case measure => simp [intOf]; omega
          · have hb : ((p : Int) == k.flag) = false := beq_eq_false_iff_ne.2 hf
            have HL2 := Lib.hid (show StrIs x (lowTo k.flag (n + 1)) by rw [lowTo, HP.out, if_neg hf]; exact HX.out)
            clear hf hy hy2
            go_wp2_with fail
            go_roundw
            case rel => exact ⟨n + 1, x, by omega, by go_num, rfl, HL2, HQ2⟩
            case measure => simp [intOf]; omega
        · have hn5 : n = 5 := by omega
          have hhs : StrIs x (headK k) := by rw [HF.out, ← lowTo_all HFL1.out, ← hn5]; exact HX.out
          have R1 := Lib.hid (RB.out.below HQ.out)
          have belq := beln.trans (HQ.out.mono beln.size)
          clear HX HQ HW R0 HNM hn5
          go_wp2_with fail
          obtain ⟨w9, rfl⟩ : ∃ x, x = wr := ⟨_, rfl⟩
          go_loopw [3, 6] (fun out i wr => ∃ (n : Nat) (x : ByteArray), n ≤ L ∧ i = .int .i64 n ∧ out = .string x ∧ x.size ≤ 60000 ∧ Hid (StrIs x (fmtTo k n)) ∧ Hid (Below w9.heap.size w9 wr)) (fun _ i _ => L - (intOf i).toNat)
          case atStart => exact ⟨0, _, by omega, rfl, rfl, by rw [strSize hhs, ← fmtTo_zero]; exact Nat.le_trans (fmtTo_len k 0) HFL.out, by rw [fmtTo_zero]; exact hhs, Below.refl _ _⟩
          case round =>
            obtain ⟨n, x, hn, rfl, rfl, hxz, HX, HQ⟩ := hrel
            have q0 := belq.trans (HQ.out.mono belq.size)
            obtain ⟨⟨e0, e1, e2, e3, e4⟩, _⟩ := fiveC (R1.out.below HQ.out)
            by_cases hlt : n < L
            · rcases HK.out with h0 | ⟨g, off, rfl, hg, hcells⟩
              · omega
              replace hg := HN.out _ hg
              have hlt' : n < k.keys.length := by rw [HL.out]; exact hlt
              obtain ⟨v0, v1, v2, v3, v4, c0, c1, c2, c3, c4, hk⟩ := hcells n hlt'
              have HS := Lib.hid (fmtTo_succ hlt')
              have hfl2 := fmtTo_len k (n + 1)
              have HC := Lib.hid (IH.out _ (List.getElem_mem hlt') _ S wr (hk.below HN.out q0) (HN.out.below q0))
              generalize k.keys[n] = c at *
              replace c0 := (q0.cell (p := ⟨g, _, none⟩) hg).trans c0
              replace c1 := (q0.cell (p := ⟨g, _, none⟩) hg).trans c1
              replace c2 := (q0.cell (p := ⟨g, _, none⟩) hg).trans c2
              replace c3 := (q0.cell (p := ⟨g, _, none⟩) hg).trans c3
              replace c4 := (q0.cell (p := ⟨g, _, none⟩) hg).trans c4
              have hnI : (n : Int) < (L : Int) := by omega
              have h32 : (⟨#[32]⟩ : ByteArray).size = 1 := rfl
              clear hcells hk hhs
              go_wp2_with fail
              refine HC.out.mono ?_
              rintro e w2 ⟨s, rfl, hs, q2⟩
              have hst : StrIs (x ++ (⟨#[32]⟩ : ByteArray) ++ s) (fmtTo k (n + 1)) := by rw [HS.out]; exact strApp (strApp HX.out rfl) hs
              have hsz := strSize hst
              have hsz2 : x.size + 1 + s.size ≤ 60000 := by rw [ByteArray.size_append, ByteArray.size_append, h32] at hsz; have := HFL.out; omega
              have HST := Lib.hid hst
              have HQ2 := Lib.hid (HQ.out.trans (q2.mono HQ.out.size))
              clear c0 c1 c2 c3 c4 q2 HC hst hsz hs
              go_wp2_with fail
              go_roundw
              case rel => exact ⟨n + 1, _, by omega, by go_num, rfl, by simp only [ByteArray.size_append, h32]; omega, HST, HQ2⟩
              case measure => simp [intOf]; omega
            · have hnn : n = k.keys.length := by rw [HL.out]; omega
              have hx := HX.out
              rw [hnn, fmtTo_all] at hx
              have HXX := Lib.hid hx
              clear hx hnn HX hhs
              go_wp2_with fail
              go_ret
              exact ⟨x, rfl, HXX.out, q0⟩
    · have HF := Lib.hid (show headK k = [116, 101, 120, 116, 32] ++ k.text.data.toList by unfold headK; rw [if_neg (by omega), if_neg (by omega), if_pos hk])
      have hz := node_name HNO.out hk
      have hz5 : (⟨#[116, 101, 120, 116, 32]⟩ : ByteArray).size = 5 := rfl
      obtain ⟨hd, hhd, hhs⟩ : ∃ hd : ByteArray, (⟨#[116, 101, 120, 116, 32]⟩ : ByteArray) ++ k.text = hd ∧ StrIs hd (headK k) := ⟨_, rfl, by rw [HF.out]; exact strApp rfl rfl⟩
      generalize hg : k.kind = kd at hk
      subst hk
      obtain ⟨w1, hw1⟩ : ∃ w1, w1 = w.alloc (.cells #[.int .i64 2, .int .i64 k.flag, .string k.text, .slice sa sn sc, .slice a L cap] 31) := ⟨_, rfl⟩
      have bel : Below w.heap.size w w1 := by rw [hw1]; go_grown
      have r0 : RowAt w1 w.heap.size 31 #[.int .i64 2, .int .i64 k.flag, .string k.text, .slice sa sn sc, .slice a L cap] := by unfold RowAt; rw [hw1]; exact heap_alloc_new w _
      have hlt1 := r0.lt
      have HW := Lib.hid hw1; have R0 := Lib.hid r0
      clear hw1 r0
      go_enter Tryd.func21, Tryd.ntmps21
      go_wp2_with fail
      try rw [hhd]
      rw [← HW.out]
      have R1 := R0
      have belq := bel
      clear HW R0
      go_loopw [3, 6] (fun out i wr => ∃ (n : Nat) (x : ByteArray), n ≤ L ∧ i = .int .i64 n ∧ out = .string x ∧ x.size ≤ 60000 ∧ Hid (StrIs x (fmtTo k n)) ∧ Hid (Below w1.heap.size w1 wr)) (fun _ i _ => L - (intOf i).toNat)
      case atStart => exact ⟨0, _, by omega, rfl, rfl, by rw [strSize hhs, ← fmtTo_zero]; exact Nat.le_trans (fmtTo_len k 0) HFL.out, by rw [fmtTo_zero]; exact hhs, Below.refl _ _⟩
      case round =>
        obtain ⟨n, x, hn, rfl, rfl, hxz, HX, HQ⟩ := hrel
        have q0 := belq.trans (HQ.out.mono belq.size)
        obtain ⟨⟨e0, e1, e2, e3, e4⟩, _⟩ := fiveC (R1.out.below HQ.out)
        by_cases hlt : n < L
        · rcases HK.out with h0 | ⟨g, off, rfl, hg, hcells⟩
          · omega
          replace hg := HN.out _ hg
          have hlt' : n < k.keys.length := by rw [HL.out]; exact hlt
          obtain ⟨v0, v1, v2, v3, v4, c0, c1, c2, c3, c4, hk⟩ := hcells n hlt'
          have HS := Lib.hid (fmtTo_succ hlt')
          have hfl2 := fmtTo_len k (n + 1)
          have HC := Lib.hid (IH.out _ (List.getElem_mem hlt') _ S wr (hk.below HN.out q0) (HN.out.below q0))
          generalize k.keys[n] = c at *
          replace c0 := (q0.cell (p := ⟨g, _, none⟩) hg).trans c0
          replace c1 := (q0.cell (p := ⟨g, _, none⟩) hg).trans c1
          replace c2 := (q0.cell (p := ⟨g, _, none⟩) hg).trans c2
          replace c3 := (q0.cell (p := ⟨g, _, none⟩) hg).trans c3
          replace c4 := (q0.cell (p := ⟨g, _, none⟩) hg).trans c4
          have hnI : (n : Int) < (L : Int) := by omega
          have h32 : (⟨#[32]⟩ : ByteArray).size = 1 := rfl
          clear hcells hk hhs
          go_wp2_with fail
          refine HC.out.mono ?_
          rintro e w2 ⟨s, rfl, hs, q2⟩
          have hst : StrIs (x ++ (⟨#[32]⟩ : ByteArray) ++ s) (fmtTo k (n + 1)) := by rw [HS.out]; exact strApp (strApp HX.out rfl) hs
          have hsz := strSize hst
          have hsz2 : x.size + 1 + s.size ≤ 60000 := by rw [ByteArray.size_append, ByteArray.size_append, h32] at hsz; have := HFL.out; omega
          have HST := Lib.hid hst
          have HQ2 := Lib.hid (HQ.out.trans (q2.mono HQ.out.size))
          clear c0 c1 c2 c3 c4 q2 HC hst hsz hs
          go_wp2_with fail
          go_roundw
          case rel => exact ⟨n + 1, _, by omega, by go_num, rfl, by simp only [ByteArray.size_append, h32]; omega, HST, HQ2⟩
          case measure => simp [intOf]; omega
        · have hnn : n = k.keys.length := by rw [HL.out]; omega
          have hx := HX.out
          rw [hnn, fmtTo_all] at hx
          have HXX := Lib.hid hx
          clear hx hnn HX hhs
          go_wp2_with fail
          go_ret
          exact ⟨x, rfl, HXX.out, q0⟩
    · have HF := Lib.hid (show headK k = [97, 116, 32] ++ setT k.set by unfold headK; rw [if_neg (by omega), if_neg (by omega), if_neg (by omega), if_pos hk])
      have HSO := Lib.hid (node_set HNO.out (.inl hk))
      generalize hg : k.kind = kd at hk
      subst hk
      obtain ⟨w1, hw1⟩ : ∃ w1, w1 = w.alloc (.cells #[.int .i64 3, .int .i64 k.flag, .string k.text, .slice sa sn sc, .slice a L cap] 31) := ⟨_, rfl⟩
      have bel : Below w.heap.size w w1 := by rw [hw1]; go_grown
      have r0 : RowAt w1 w.heap.size 31 #[.int .i64 3, .int .i64 k.flag, .string k.text, .slice sa sn sc, .slice a L cap] := by unfold RowAt; rw [hw1]; exact heap_alloc_new w _
      have hlt1 := r0.lt
      have HW := Lib.hid hw1; have R0 := Lib.hid r0
      clear hw1 r0
      go_enter Tryd.func21, Tryd.ntmps21
      have hzb : (⟨#[97, 116, 32]⟩ : ByteArray).size = 3 := rfl
      go_wp2_with fail
      rw [← HW.out]
      refine (specSetText_any k.set _ S w1 (HSET.out.below HN.out bel) (HN.out.below bel) HSO.out).mono ?_
      rintro e w2 ⟨s, rfl, hs, q⟩
      have belq := bel.trans (q.mono bel.size)
      have R1 := Lib.hid (R0.out.below q)
      have hz2 : s.size ≤ 36 := by rw [strSize hs]; exact setT_len HSO.out
      obtain ⟨hd, hhd, hhs⟩ : ∃ hd : ByteArray, (⟨#[97, 116, 32]⟩ : ByteArray) ++ s = hd ∧ StrIs hd (headK k) := ⟨_, rfl, by rw [HF.out]; exact strApp rfl hs⟩
      clear HW R0 hs q
      go_wp2_with fail
      try rw [hhd]
      go_loopw [3, 6] (fun out i wr => ∃ (n : Nat) (x : ByteArray), n ≤ L ∧ i = .int .i64 n ∧ out = .string x ∧ x.size ≤ 60000 ∧ Hid (StrIs x (fmtTo k n)) ∧ Hid (Below w2.heap.size w2 wr)) (fun _ i _ => L - (intOf i).toNat)
      case atStart => exact ⟨0, _, by omega, rfl, rfl, by rw [strSize hhs, ← fmtTo_zero]; exact Nat.le_trans (fmtTo_len k 0) HFL.out, by rw [fmtTo_zero]; exact hhs, Below.refl _ _⟩
      case round =>
        obtain ⟨n, x, hn, rfl, rfl, hxz, HX, HQ⟩ := hrel
        have q0 := belq.trans (HQ.out.mono belq.size)
        obtain ⟨⟨e0, e1, e2, e3, e4⟩, _⟩ := fiveC (R1.out.below HQ.out)
        by_cases hlt : n < L
        · rcases HK.out with h0 | ⟨g, off, rfl, hg, hcells⟩
          · omega
          replace hg := HN.out _ hg
          have hlt' : n < k.keys.length := by rw [HL.out]; exact hlt
          obtain ⟨v0, v1, v2, v3, v4, c0, c1, c2, c3, c4, hk⟩ := hcells n hlt'
          have HS := Lib.hid (fmtTo_succ hlt')
          have hfl2 := fmtTo_len k (n + 1)
          have HC := Lib.hid (IH.out _ (List.getElem_mem hlt') _ S wr (hk.below HN.out q0) (HN.out.below q0))
          generalize k.keys[n] = c at *
          replace c0 := (q0.cell (p := ⟨g, _, none⟩) hg).trans c0
          replace c1 := (q0.cell (p := ⟨g, _, none⟩) hg).trans c1
          replace c2 := (q0.cell (p := ⟨g, _, none⟩) hg).trans c2
          replace c3 := (q0.cell (p := ⟨g, _, none⟩) hg).trans c3
          replace c4 := (q0.cell (p := ⟨g, _, none⟩) hg).trans c4
          have hnI : (n : Int) < (L : Int) := by omega
          have h32 : (⟨#[32]⟩ : ByteArray).size = 1 := rfl
          clear hcells hk hhs
          go_wp2_with fail
          refine HC.out.mono ?_
          rintro e w2 ⟨s, rfl, hs, q2⟩
          have hst : StrIs (x ++ (⟨#[32]⟩ : ByteArray) ++ s) (fmtTo k (n + 1)) := by rw [HS.out]; exact strApp (strApp HX.out rfl) hs
          have hsz := strSize hst
          have hsz2 : x.size + 1 + s.size ≤ 60000 := by rw [ByteArray.size_append, ByteArray.size_append, h32] at hsz; have := HFL.out; omega
          have HST := Lib.hid hst
          have HQ2 := Lib.hid (HQ.out.trans (q2.mono HQ.out.size))
          clear c0 c1 c2 c3 c4 q2 HC hst hsz hs
          go_wp2_with fail
          go_roundw
          case rel => exact ⟨n + 1, _, by omega, by go_num, rfl, by simp only [ByteArray.size_append, h32]; omega, HST, HQ2⟩
          case measure => simp [intOf]; omega
        · have hnn : n = k.keys.length := by rw [HL.out]; omega
          have hx := HX.out
          rw [hnn, fmtTo_all] at hx
          have HXX := Lib.hid hx
          clear hx hnn HX hhs
          go_wp2_with fail
          go_ret
          exact ⟨x, rfl, HXX.out, q0⟩
    · have HF := Lib.hid (show headK k = [117, 105, 100, 32] ++ setT k.set by unfold headK; rw [if_neg (by omega), if_neg (by omega), if_neg (by omega), if_neg (by omega), if_pos hk])
      have HSO := Lib.hid (node_set HNO.out (.inr hk))
      generalize hg : k.kind = kd at hk
      subst hk
      obtain ⟨w1, hw1⟩ : ∃ w1, w1 = w.alloc (.cells #[.int .i64 4, .int .i64 k.flag, .string k.text, .slice sa sn sc, .slice a L cap] 31) := ⟨_, rfl⟩
      have bel : Below w.heap.size w w1 := by rw [hw1]; go_grown
      have r0 : RowAt w1 w.heap.size 31 #[.int .i64 4, .int .i64 k.flag, .string k.text, .slice sa sn sc, .slice a L cap] := by unfold RowAt; rw [hw1]; exact heap_alloc_new w _
      have hlt1 := r0.lt
      have HW := Lib.hid hw1; have R0 := Lib.hid r0
      clear hw1 r0
      go_enter Tryd.func21, Tryd.ntmps21
      have hzb : (⟨#[117, 105, 100, 32]⟩ : ByteArray).size = 4 := rfl
      go_wp2_with fail
      rw [← HW.out]
      refine (specSetText_any k.set _ S w1 (HSET.out.below HN.out bel) (HN.out.below bel) HSO.out).mono ?_
      rintro e w2 ⟨s, rfl, hs, q⟩
      have belq := bel.trans (q.mono bel.size)
      have R1 := Lib.hid (R0.out.below q)
      have hz2 : s.size ≤ 36 := by rw [strSize hs]; exact setT_len HSO.out
      obtain ⟨hd, hhd, hhs⟩ : ∃ hd : ByteArray, (⟨#[117, 105, 100, 32]⟩ : ByteArray) ++ s = hd ∧ StrIs hd (headK k) := ⟨_, rfl, by rw [HF.out]; exact strApp rfl hs⟩
      clear HW R0 hs q
      go_wp2_with fail
      try rw [hhd]
      go_loopw [3, 6] (fun out i wr => ∃ (n : Nat) (x : ByteArray), n ≤ L ∧ i = .int .i64 n ∧ out = .string x ∧ x.size ≤ 60000 ∧ Hid (StrIs x (fmtTo k n)) ∧ Hid (Below w2.heap.size w2 wr)) (fun _ i _ => L - (intOf i).toNat)
      case atStart => exact ⟨0, _, by omega, rfl, rfl, by rw [strSize hhs, ← fmtTo_zero]; exact Nat.le_trans (fmtTo_len k 0) HFL.out, by rw [fmtTo_zero]; exact hhs, Below.refl _ _⟩
      case round =>
        obtain ⟨n, x, hn, rfl, rfl, hxz, HX, HQ⟩ := hrel
        have q0 := belq.trans (HQ.out.mono belq.size)
        obtain ⟨⟨e0, e1, e2, e3, e4⟩, _⟩ := fiveC (R1.out.below HQ.out)
        by_cases hlt : n < L
        · rcases HK.out with h0 | ⟨g, off, rfl, hg, hcells⟩
          · omega
          replace hg := HN.out _ hg
          have hlt' : n < k.keys.length := by rw [HL.out]; exact hlt
          obtain ⟨v0, v1, v2, v3, v4, c0, c1, c2, c3, c4, hk⟩ := hcells n hlt'
          have HS := Lib.hid (fmtTo_succ hlt')
          have hfl2 := fmtTo_len k (n + 1)
          have HC := Lib.hid (IH.out _ (List.getElem_mem hlt') _ S wr (hk.below HN.out q0) (HN.out.below q0))
          generalize k.keys[n] = c at *
          replace c0 := (q0.cell (p := ⟨g, _, none⟩) hg).trans c0
          replace c1 := (q0.cell (p := ⟨g, _, none⟩) hg).trans c1
          replace c2 := (q0.cell (p := ⟨g, _, none⟩) hg).trans c2
          replace c3 := (q0.cell (p := ⟨g, _, none⟩) hg).trans c3
          replace c4 := (q0.cell (p := ⟨g, _, none⟩) hg).trans c4
          have hnI : (n : Int) < (L : Int) := by omega
          have h32 : (⟨#[32]⟩ : ByteArray).size = 1 := rfl
          clear hcells hk hhs
          go_wp2_with fail
          refine HC.out.mono ?_
          rintro e w2 ⟨s, rfl, hs, q2⟩
          have hst : StrIs (x ++ (⟨#[32]⟩ : ByteArray) ++ s) (fmtTo k (n + 1)) := by rw [HS.out]; exact strApp (strApp HX.out rfl) hs
          have hsz := strSize hst
          have hsz2 : x.size + 1 + s.size ≤ 60000 := by rw [ByteArray.size_append, ByteArray.size_append, h32] at hsz; have := HFL.out; omega
          have HST := Lib.hid hst
          have HQ2 := Lib.hid (HQ.out.trans (q2.mono HQ.out.size))
          clear c0 c1 c2 c3 c4 q2 HC hst hsz hs
          go_wp2_with fail
          go_roundw
          case rel => exact ⟨n + 1, _, by omega, by go_num, rfl, by simp only [ByteArray.size_append, h32]; omega, HST, HQ2⟩
          case measure => simp [intOf]; omega
        · have hnn : n = k.keys.length := by rw [HL.out]; omega
          have hx := HX.out
          rw [hnn, fmtTo_all] at hx
          have HXX := Lib.hid hx
          clear hx hnn HX hhs
          go_wp2_with fail
          go_ret
          exact ⟨x, rfl, HXX.out, q0⟩
    · have HF := Lib.hid (show headK k = [110, 111, 116] by unfold headK; rw [if_neg (by omega), if_neg (by omega), if_neg (by omega), if_neg (by omega), if_neg (by omega), if_pos hk])
      generalize hg : k.kind = kd at hk
      subst hk
      obtain ⟨w1, hw1⟩ : ∃ w1, w1 = w.alloc (.cells #[.int .i64 5, .int .i64 k.flag, .string k.text, .slice sa sn sc, .slice a L cap] 31) := ⟨_, rfl⟩
      have bel : Below w.heap.size w w1 := by rw [hw1]; go_grown
      have r0 : RowAt w1 w.heap.size 31 #[.int .i64 5, .int .i64 k.flag, .string k.text, .slice sa sn sc, .slice a L cap] := by unfold RowAt; rw [hw1]; exact heap_alloc_new w _
      have hlt1 := r0.lt
      have HW := Lib.hid hw1; have R0 := Lib.hid r0
      clear hw1 r0
      go_enter Tryd.func21, Tryd.ntmps21
      obtain ⟨hd, hhd, hhs⟩ : ∃ hd : ByteArray, (⟨#[110, 111, 116]⟩ : ByteArray) = hd ∧ StrIs hd (headK k) := ⟨_, rfl, by rw [HF.out]; rfl⟩
      go_wp2_with fail
      rw [hhd, ← HW.out]
      have R1 := R0
      have belq := bel
      clear HW R0
      go_loopw [3, 6] (fun out i wr => ∃ (n : Nat) (x : ByteArray), n ≤ L ∧ i = .int .i64 n ∧ out = .string x ∧ x.size ≤ 60000 ∧ Hid (StrIs x (fmtTo k n)) ∧ Hid (Below w1.heap.size w1 wr)) (fun _ i _ => L - (intOf i).toNat)
      case atStart => exact ⟨0, _, by omega, rfl, rfl, by rw [strSize hhs, ← fmtTo_zero]; exact Nat.le_trans (fmtTo_len k 0) HFL.out, by rw [fmtTo_zero]; exact hhs, Below.refl _ _⟩
      case round =>
        obtain ⟨n, x, hn, rfl, rfl, hxz, HX, HQ⟩ := hrel
        have q0 := belq.trans (HQ.out.mono belq.size)
        obtain ⟨⟨e0, e1, e2, e3, e4⟩, _⟩ := fiveC (R1.out.below HQ.out)
        by_cases hlt : n < L
        · rcases HK.out with h0 | ⟨g, off, rfl, hg, hcells⟩
          · omega
          replace hg := HN.out _ hg
          have hlt' : n < k.keys.length := by rw [HL.out]; exact hlt
          obtain ⟨v0, v1, v2, v3, v4, c0, c1, c2, c3, c4, hk⟩ := hcells n hlt'
          have HS := Lib.hid (fmtTo_succ hlt')
          have hfl2 := fmtTo_len k (n + 1)
          have HC := Lib.hid (IH.out _ (List.getElem_mem hlt') _ S wr (hk.below HN.out q0) (HN.out.below q0))
          generalize k.keys[n] = c at *
          replace c0 := (q0.cell (p := ⟨g, _, none⟩) hg).trans c0
          replace c1 := (q0.cell (p := ⟨g, _, none⟩) hg).trans c1
          replace c2 := (q0.cell (p := ⟨g, _, none⟩) hg).trans c2
          replace c3 := (q0.cell (p := ⟨g, _, none⟩) hg).trans c3
          replace c4 := (q0.cell (p := ⟨g, _, none⟩) hg).trans c4
          have hnI : (n : Int) < (L : Int) := by omega
          have h32 : (⟨#[32]⟩ : ByteArray).size = 1 := rfl
          clear hcells hk hhs
          go_wp2_with fail
          refine HC.out.mono ?_
          rintro e w2 ⟨s, rfl, hs, q2⟩
          have hst : StrIs (x ++ (⟨#[32]⟩ : ByteArray) ++ s) (fmtTo k (n + 1)) := by rw [HS.out]; exact strApp (strApp HX.out rfl) hs
          have hsz := strSize hst
          have hsz2 : x.size + 1 + s.size ≤ 60000 := by rw [ByteArray.size_append, ByteArray.size_append, h32] at hsz; have := HFL.out; omega
          have HST := Lib.hid hst
          have HQ2 := Lib.hid (HQ.out.trans (q2.mono HQ.out.size))
          clear c0 c1 c2 c3 c4 q2 HC hst hsz hs
          go_wp2_with fail
          go_roundw
          case rel => exact ⟨n + 1, _, by omega, by go_num, rfl, by simp only [ByteArray.size_append, h32]; omega, HST, HQ2⟩
          case measure => simp [intOf]; omega
        · have hnn : n = k.keys.length := by rw [HL.out]; omega
          have hx := HX.out
          rw [hnn, fmtTo_all] at hx
          have HXX := Lib.hid hx
          clear hx hnn HX hhs
          go_wp2_with fail
          go_ret
          exact ⟨x, rfl, HXX.out, q0⟩
    · have HF := Lib.hid (show headK k = [97, 110, 100] by unfold headK; rw [if_neg (by omega), if_neg (by omega), if_neg (by omega), if_neg (by omega), if_neg (by omega), if_neg (by omega), if_pos hk])
      generalize hg : k.kind = kd at hk
      subst hk
      obtain ⟨w1, hw1⟩ : ∃ w1, w1 = w.alloc (.cells #[.int .i64 6, .int .i64 k.flag, .string k.text, .slice sa sn sc, .slice a L cap] 31) := ⟨_, rfl⟩
      have bel : Below w.heap.size w w1 := by rw [hw1]; go_grown
      have r0 : RowAt w1 w.heap.size 31 #[.int .i64 6, .int .i64 k.flag, .string k.text, .slice sa sn sc, .slice a L cap] := by unfold RowAt; rw [hw1]; exact heap_alloc_new w _
      have hlt1 := r0.lt
      have HW := Lib.hid hw1; have R0 := Lib.hid r0
      clear hw1 r0
      go_enter Tryd.func21, Tryd.ntmps21
      obtain ⟨hd, hhd, hhs⟩ : ∃ hd : ByteArray, (⟨#[97, 110, 100]⟩ : ByteArray) = hd ∧ StrIs hd (headK k) := ⟨_, rfl, by rw [HF.out]; rfl⟩
      go_wp2_with fail
      rw [hhd, ← HW.out]
      have R1 := R0
      have belq := bel
      clear HW R0
      go_loopw [3, 6] (fun out i wr => ∃ (n : Nat) (x : ByteArray), n ≤ L ∧ i = .int .i64 n ∧ out = .string x ∧ x.size ≤ 60000 ∧ Hid (StrIs x (fmtTo k n)) ∧ Hid (Below w1.heap.size w1 wr)) (fun _ i _ => L - (intOf i).toNat)
      case atStart => exact ⟨0, _, by omega, rfl, rfl, by rw [strSize hhs, ← fmtTo_zero]; exact Nat.le_trans (fmtTo_len k 0) HFL.out, by rw [fmtTo_zero]; exact hhs, Below.refl _ _⟩
      case round =>
        obtain ⟨n, x, hn, rfl, rfl, hxz, HX, HQ⟩ := hrel
        have q0 := belq.trans (HQ.out.mono belq.size)
        obtain ⟨⟨e0, e1, e2, e3, e4⟩, _⟩ := fiveC (R1.out.below HQ.out)
        by_cases hlt : n < L
        · rcases HK.out with h0 | ⟨g, off, rfl, hg, hcells⟩
          · omega
          replace hg := HN.out _ hg
          have hlt' : n < k.keys.length := by rw [HL.out]; exact hlt
          obtain ⟨v0, v1, v2, v3, v4, c0, c1, c2, c3, c4, hk⟩ := hcells n hlt'
          have HS := Lib.hid (fmtTo_succ hlt')
          have hfl2 := fmtTo_len k (n + 1)
          have HC := Lib.hid (IH.out _ (List.getElem_mem hlt') _ S wr (hk.below HN.out q0) (HN.out.below q0))
          generalize k.keys[n] = c at *
          replace c0 := (q0.cell (p := ⟨g, _, none⟩) hg).trans c0
          replace c1 := (q0.cell (p := ⟨g, _, none⟩) hg).trans c1
          replace c2 := (q0.cell (p := ⟨g, _, none⟩) hg).trans c2
          replace c3 := (q0.cell (p := ⟨g, _, none⟩) hg).trans c3
          replace c4 := (q0.cell (p := ⟨g, _, none⟩) hg).trans c4
          have hnI : (n : Int) < (L : Int) := by omega
          have h32 : (⟨#[32]⟩ : ByteArray).size = 1 := rfl
          clear hcells hk hhs
          go_wp2_with fail
          refine HC.out.mono ?_
          rintro e w2 ⟨s, rfl, hs, q2⟩
          have hst : StrIs (x ++ (⟨#[32]⟩ : ByteArray) ++ s) (fmtTo k (n + 1)) := by rw [HS.out]; exact strApp (strApp HX.out rfl) hs
          have hsz := strSize hst
          have hsz2 : x.size + 1 + s.size ≤ 60000 := by rw [ByteArray.size_append, ByteArray.size_append, h32] at hsz; have := HFL.out; omega
          have HST := Lib.hid hst
          have HQ2 := Lib.hid (HQ.out.trans (q2.mono HQ.out.size))
          clear c0 c1 c2 c3 c4 q2 HC hst hsz hs
          go_wp2_with fail
          go_roundw
          case rel => exact ⟨n + 1, _, by omega, by go_num, rfl, by simp only [ByteArray.size_append, h32]; omega, HST, HQ2⟩
          case measure => simp [intOf]; omega
        · have hnn : n = k.keys.length := by rw [HL.out]; omega
          have hx := HX.out
          rw [hnn, fmtTo_all] at hx
          have HXX := Lib.hid hx
          clear hx hnn HX hhs
          go_wp2_with fail
          go_ret
          exact ⟨x, rfl, HXX.out, q0⟩
    · have HF := Lib.hid (show headK k = [111, 114] by unfold headK; rw [if_neg (by omega), if_neg (by omega), if_neg (by omega), if_neg (by omega), if_neg (by omega), if_neg (by omega), if_neg (by omega)])
      generalize hg : k.kind = kd at hk
      subst hk
      obtain ⟨w1, hw1⟩ : ∃ w1, w1 = w.alloc (.cells #[.int .i64 7, .int .i64 k.flag, .string k.text, .slice sa sn sc, .slice a L cap] 31) := ⟨_, rfl⟩
      have bel : Below w.heap.size w w1 := by rw [hw1]; go_grown
      have r0 : RowAt w1 w.heap.size 31 #[.int .i64 7, .int .i64 k.flag, .string k.text, .slice sa sn sc, .slice a L cap] := by unfold RowAt; rw [hw1]; exact heap_alloc_new w _
      have hlt1 := r0.lt
      have HW := Lib.hid hw1; have R0 := Lib.hid r0
      clear hw1 r0
      go_enter Tryd.func21, Tryd.ntmps21
      obtain ⟨hd, hhd, hhs⟩ : ∃ hd : ByteArray, (⟨#[111, 114]⟩ : ByteArray) = hd ∧ StrIs hd (headK k) := ⟨_, rfl, by rw [HF.out]; rfl⟩
      go_wp2_with fail
      rw [hhd, ← HW.out]
      have R1 := R0
      have belq := bel
      clear HW R0
      go_loopw [3, 6] (fun out i wr => ∃ (n : Nat) (x : ByteArray), n ≤ L ∧ i = .int .i64 n ∧ out = .string x ∧ x.size ≤ 60000 ∧ Hid (StrIs x (fmtTo k n)) ∧ Hid (Below w1.heap.size w1 wr)) (fun _ i _ => L - (intOf i).toNat)
      case atStart => exact ⟨0, _, by omega, rfl, rfl, by rw [strSize hhs, ← fmtTo_zero]; exact Nat.le_trans (fmtTo_len k 0) HFL.out, by rw [fmtTo_zero]; exact hhs, Below.refl _ _⟩
      case round =>
        obtain ⟨n, x, hn, rfl, rfl, hxz, HX, HQ⟩ := hrel
        have q0 := belq.trans (HQ.out.mono belq.size)
        obtain ⟨⟨e0, e1, e2, e3, e4⟩, _⟩ := fiveC (R1.out.below HQ.out)
        by_cases hlt : n < L
        · rcases HK.out with h0 | ⟨g, off, rfl, hg, hcells⟩
          · omega
          replace hg := HN.out _ hg
          have hlt' : n < k.keys.length := by rw [HL.out]; exact hlt
          obtain ⟨v0, v1, v2, v3, v4, c0, c1, c2, c3, c4, hk⟩ := hcells n hlt'
          have HS := Lib.hid (fmtTo_succ hlt')
          have hfl2 := fmtTo_len k (n + 1)
          have HC := Lib.hid (IH.out _ (List.getElem_mem hlt') _ S wr (hk.below HN.out q0) (HN.out.below q0))
          generalize k.keys[n] = c at *
          replace c0 := (q0.cell (p := ⟨g, _, none⟩) hg).trans c0
          replace c1 := (q0.cell (p := ⟨g, _, none⟩) hg).trans c1
          replace c2 := (q0.cell (p := ⟨g, _, none⟩) hg).trans c2
          replace c3 := (q0.cell (p := ⟨g, _, none⟩) hg).trans c3
          replace c4 := (q0.cell (p := ⟨g, _, none⟩) hg).trans c4
          have hnI : (n : Int) < (L : Int) := by omega
          have h32 : (⟨#[32]⟩ : ByteArray).size = 1 := rfl
          clear hcells hk hhs
          go_wp2_with fail
          refine HC.out.mono ?_
          rintro e w2 ⟨s, rfl, hs, q2⟩
          have hst : StrIs (x ++ (⟨#[32]⟩ : ByteArray) ++ s) (fmtTo k (n + 1)) := by rw [HS.out]; exact strApp (strApp HX.out rfl) hs
          have hsz := strSize hst
          have hsz2 : x.size + 1 + s.size ≤ 60000 := by rw [ByteArray.size_append, ByteArray.size_append, h32] at hsz; have := HFL.out; omega
          have HST := Lib.hid hst
          have HQ2 := Lib.hid (HQ.out.trans (q2.mono HQ.out.size))
          clear c0 c1 c2 c3 c4 q2 HC hst hsz hs
          go_wp2_with fail
          go_roundw
          case rel => exact ⟨n + 1, _, by omega, by go_num, rfl, by simp only [ByteArray.size_append, h32]; omega, HST, HQ2⟩
          case measure => simp [intOf]; omega
        · have hnn : n = k.keys.length := by rw [HL.out]; omega
          have hx := HX.out
          rw [hnn, fmtTo_all] at hx
          have HXX := Lib.hid hx
          clear hx hnn HX hhs
          go_wp2_with fail
          go_ret
          exact ⟨x, rfl, HXX.out, q0⟩
end Go.Proofs.YtgcdopmidmelfaaDoor

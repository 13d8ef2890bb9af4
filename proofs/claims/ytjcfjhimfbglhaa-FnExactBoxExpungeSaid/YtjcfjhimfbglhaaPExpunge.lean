/- WALKS: the program removes deleted messages: a list in memory, its links changed in place. -/
import Derived.Test.YtjcfjhimfbglhaaBoxApp
import Derived.Test.YtjcfjhimfbglhaaBoxLaws
import Derived.Test.YtjcfjhimfbglhaaUids
import Derived.Test.YtjcfjhimfbglhaaFlags3
namespace Go.Proofs.Ytjcfjhimfbglhaa
open Go.RowKit
set_option linter.unusedVariables false

/-- Flags have the flag of the deleted ones. -/
theorem del_d : ∀ f, f < 32 → (f &&& 8 == 8) = decide (f / 8 % 2 = 1) := by decide +kernel
theorem del_have {m : M} (h : mok m = true) : haveB m.flags 8 = del m := by
  have hf := (fok_iff _).1 (mok_flags h)
  obtain ⟨u, f, t⟩ := m
  obtain ⟨n, rfl⟩ := Int.eq_ofNat_of_zero_le hf.1
  have e : haveB (n : Int) 8 = (n &&& 8 == 8) := haveB_nat (b := 8) (by dsimp only at hf; omega) (by omega)
  dsimp only
  rw [e, del_d n (by dsimp only at hf; omega)]
  simp [del]
/-- Where the link lies that leads on: in the list's head, or in the last node that stays. -/
def linkAt (g : Nat) (ks : List Nat) : Addr := match ks.getLast? with | none => ⟨g, 0, none⟩ | some k => ⟨k, 3, none⟩
/-- The list while it is gone through: nodes that stay, nodes to come. -/
structure Ex (v : World) (B g c : Nat) (last : Value) (ks rs : List Nat) (kl rl : List M) : Prop where
  head : v.heap[g]? = some (.cells #[.pointer (addr? (ks ++ rs)[0]?), last, .int .i64 c] 71 (0, 0))
  nodes : Nodes v B (ks ++ rs) (kl ++ rl)
  low : B ≤ g
  len : ks.length = kl.length
theorem Ex.below {v v' : World} {B g c : Nat} {last : Value} {ks rs : List Nat} {kl rl : List M} (h : Ex v B g c last ks rs kl rl) (hb : Below v.heap.size v v') : Ex v' B g c last ks rs kl rl :=
  ⟨(hb.block _ (lt_of_block h.head)).trans h.head, h.nodes.below hb, h.low, h.len⟩
theorem Ex.kept {v v' : World} {B g c : Nat} {last : Value} {ks rs : List Nat} {kl rl : List M} (h : Ex v B g c last ks rs kl rl) {b2 e2 s2 n2 : Nat} {v2 : Value} {x2 : List Value} (hown : v.ownsRow b2 e2 s2 v2 n2 x2)
    (h1 : e2 ≠ 71) (h2 : e2 ≠ 74) (hg : v.grownBy v' v2.ownBlock) : Ex v' B g c last ks rs kl rl := by
  refine ⟨block_kept h.head (fun e => h1 e.symm) hown hg, h.nodes.keep fun k hk => ?_, h.low, h.len⟩
  obtain ⟨i, hi, rfl⟩ := List.mem_iff_getElem.1 hk
  have hl : i < (kl ++ rl).length := by rw [← h.nodes.len]; exact hi
  have hn := h.nodes.node i _ _ (List.getElem?_eq_getElem hi) (List.getElem?_eq_getElem hl)
  rw [hn]
  exact block_kept hn (fun e => h2 e.symm) hown hg
/-- What the link holds. -/
theorem Ex.link {v : World} {B g c : Nat} {last : Value} {ks rs : List Nat} {kl rl : List M} (h : Ex v B g c last ks rs kl rl) :
    ∃ lb lo cs t, linkAt g ks = ⟨lb, lo, none⟩ ∧ v.cell? ⟨lb, lo, none⟩ = some (.pointer (addr? rs[0]?)) ∧ v.frozen? ⟨lb, lo, none⟩ = false ∧ B ≤ lb ∧ lb < v.heap.size ∧ v.heap[lb]? = some (.cells cs t (0, 0)) ∧ t ≠ 3 := by
  unfold linkAt
  rcases hk : ks.getLast? with _ | k
  · obtain rfl : ks = [] := List.getLast?_eq_none_iff.1 hk
    obtain ⟨c0, c1, c2, f0, f1, f2⟩ := three_cells h.head
    exact ⟨g, 0, _, _, rfl, c0, f0, h.low, lt_of_block h.head, h.head, by decide⟩
  · have hk' : ks[ks.length - 1]? = some k := by rw [← hk, List.getLast?_eq_getElem?]
    have hpos : 0 < ks.length := List.length_pos_of_mem (List.mem_of_getLast? hk)
    have hk2 : (ks ++ rs)[ks.length - 1]? = some k := by rw [List.getElem?_append_left (by omega)]; exact hk'
    have hlt : ks.length - 1 < (kl ++ rl).length := by rw [List.length_append, ← h.len]; omega
    obtain ⟨c0, c1, c2, c3, f1, f3⟩ := h.nodes.cells hk2 (List.getElem?_eq_getElem hlt)
    have e : (ks ++ rs)[ks.length - 1 + 1]? = rs[0]? := by rw [show ks.length - 1 + 1 = ks.length from by omega, List.getElem?_append_right (Nat.le_refl _), Nat.sub_self]
    rw [e] at c3
    have hm : k ∈ ks ++ rs := by simp [List.mem_of_getLast? hk]
    exact ⟨k, 3, _, _, rfl, c3, f3, h.nodes.low k hm, h.nodes.lt hm, h.nodes.node _ _ _ hk2 (List.getElem?_eq_getElem hlt), by decide⟩
/-- The first node to come. -/
theorem Ex.next {v : World} {B g c n : Nat} {last : Value} {ks rs : List Nat} {kl rl : List M} {m : M} (h : Ex v B g c last ks (n :: rs) kl (m :: rl)) :
    v.cell? ⟨n, 0, none⟩ = some (.int .i64 m.uid) ∧ v.cell? ⟨n, 1, none⟩ = some (.int .i64 m.flags) ∧ v.cell? ⟨n, 2, none⟩ = some (.string m.text) ∧ v.cell? ⟨n, 3, none⟩ = some (.pointer (addr? rs[0]?)) ∧ n < v.heap.size := by
  have e1 : (ks ++ n :: rs)[ks.length]? = some n := by rw [List.getElem?_append_right (Nat.le_refl _), Nat.sub_self]; rfl
  have e2 : (kl ++ m :: rl)[ks.length]? = some m := by rw [h.len, List.getElem?_append_right (Nat.le_refl _), Nat.sub_self]; rfl
  obtain ⟨c0, c1, c2, c3, f1, f3⟩ := h.nodes.cells e1 e2
  have e3 : (ks ++ n :: rs)[ks.length + 1]? = rs[0]? := by rw [List.getElem?_append_right (by omega), show ks.length + 1 - ks.length = 0 + 1 from by omega, List.getElem?_cons_succ]
  rw [e3] at c3
  exact ⟨c0, c1, c2, c3, h.nodes.lt (by simp)⟩
/-- The next node stays. -/
theorem Ex.stay {v : World} {B g c n : Nat} {last : Value} {ks rs : List Nat} {kl rl : List M} {m : M} (h : Ex v B g c last ks (n :: rs) kl (m :: rl)) : Ex v B g c last (ks ++ [n]) rs (kl ++ [m]) rl ∧ linkAt g (ks ++ [n]) = ⟨n, 3, none⟩ := by
  refine ⟨⟨by rw [List.append_assoc]; exact h.head, by rw [List.append_assoc, List.append_assoc]; exact h.nodes, h.low, by simp [h.len]⟩, ?_⟩
  unfold linkAt; rw [List.getLast?_concat]
/-- The next node goes. -/
theorem Ex.drop {v : World} {B g c n : Nat} {last : Value} {ks rs : List Nat} {kl rl : List M} {m : M} (h : Ex v B g c last ks (n :: rs) kl (m :: rl)) :
    Ex (v.setCell (linkAt g ks) (.pointer (addr? rs[0]?))) B g c last ks rs kl rl := by
  have hgn : g ∉ ks ++ n :: rs := h.nodes.type h.head (by decide)
  unfold linkAt
  rcases hk : ks.getLast? with _ | k
  · obtain rfl : ks = [] := List.getLast?_eq_none_iff.1 hk
    obtain rfl : kl = [] := List.eq_nil_of_length_eq_zero h.len.symm
    refine ⟨?_, ?_, h.low, h.len⟩
    · dsimp only
      rw [set_at h.head]; rfl
    · have ht : Nodes v B rs rl := Nodes.tail h.nodes
      exact ht.other (fun hm => hgn (by simp [hm]))
  · have hpos : 0 < ks.length := List.length_pos_of_mem (List.mem_of_getLast? hk)
    have hkg : g ≠ k := fun e => hgn (by rw [e]; simp [List.mem_of_getLast? hk])
    refine ⟨?_, h.nodes.skip h.len hk, h.low, h.len⟩
    dsimp only
    rw [set_off hkg, h.head]
    have e1 : (ks ++ n :: rs)[0]? = ks[0]? := List.getElem?_append_left hpos
    have e2 : (ks ++ rs)[0]? = ks[0]? := List.getElem?_append_left hpos
    rw [e1, e2]
set_option maxHeartbeats 1000000 in
theorem implBoxExpunge_any (b : B) (v : Value) (w : World) (hb : BoxAt w v b) :
    Calls Try.prog 22 #[v] w fun e w' => ∃ (s : Value) (g cap : Nat), e = .returned (.tuple #[.agg #[.int .i64 (expunge b).1.next, s], .slice (some ⟨g, 0, none⟩) (expunge b).2.length cap]) ∧ Own w' w.heap.size s (expunge b).1.mail ∧ OwnInts w' w.heap.size (.slice (some ⟨g, 0, none⟩) (expunge b).2.length cap) (expunge b).2 ∧ Below w.heap.size w w' := by
  have hb' := hb
  obtain ⟨s, rfl, a, L, cap, rfl, rfl, hcap, ⟨hmax, hnil⟩, hmail⟩ := hb
  obtain ⟨j0, hj, hy0, hy1, hy2⟩ := info_parts Try.infoInt
  obtain ⟨w1, hw1⟩ : ∃ w1, w1 = ((w.alloc (.cells #[.int .i64 b.next, .slice a b.mail.length cap] 29)).alloc (.cells #[.int .i64 0, .slice none 0 0] 29)).alloc (.cells #[] 3) := ⟨_, rfl⟩
  have bel1 : Below w.heap.size w w1 := by rw [hw1]; go_grown
  have h0 : w1.heap[w.heap.size]? = some (.cells #[.int .i64 b.next, .slice a b.mail.length cap] 29 (0, 0)) := by
    rw [hw1, Below.heap_alloc _ _ _ (by simp; omega), Below.heap_alloc _ _ _ (by simp)]; exact heap_alloc_new w _
  have h1 : w1.heap[w.heap.size + 1]? = some (.cells #[.int .i64 0, .slice none 0 0] 29 (0, 0)) := by
    rw [hw1, Below.heap_alloc _ _ _ (by simp)]; have := heap_alloc_new (w.alloc (.cells #[.int .i64 b.next, .slice a b.mail.length cap] 29)) (.cells #[.int .i64 0, .slice none 0 0] 29); simpa using this
  have ho : w1.ownsRow (w.heap.size + 2) 3 1 (.slice (some ⟨w.heap.size + 1 + 1, 0, none⟩) 0 0) 0 [] := by
    have := World.ownsRow_made (base := w.heap.size + 2) (e := 3) (size := 1) ((w.alloc (.cells #[.int .i64 b.next, .slice a b.mail.length cap] 29)).alloc (.cells #[.int .i64 0, .slice none 0 0] 29)) #[] 0 (by simp) (by unfold maxLen; omega) rfl
    rw [hw1]; simpa using this
  have hsz : w.heap.size + 3 ≤ w1.heap.size := by rw [hw1]; simp
  have HW := Lib.hid hw1
  have K := implBoxValid_any b (.agg #[.int .i64 b.next, .slice a b.mail.length cap]) w1 (hb'.below bel1)
  have HK := Lib.hid K
  have HB := Lib.hid hb'
  have HO := Lib.hid ho
  clear hb' hnil hmail hw1 K ho
  go_enter Try.func22, Try.ntmps22
  go_wp2_with fail
  rw [← HW.out]
  refine HK.out.mono ?_
  rintro e w2 ⟨rfl, q2⟩
  have g0 := (q2.block _ (by omega)).trans h0
  have g1 := (q2.block _ (by omega)).trans h1
  have bel2 := bel1.trans (q2.mono bel1.size)
  have ho2 : w2.ownsRow (w.heap.size + 2) 3 1 (.slice (some ⟨w.heap.size + 1 + 1, 0, none⟩) 0 0) 0 [] := World.ownsRow.kept (row := none) HO.out ⟨q2.os, q2.tape, q2.output, q2.size, fun k hk _ => q2.block k hk⟩ (by simp [Value.ownBlock])
  replace HO := Lib.hid ho2
  have z0 : w.heap.size + 2 < w2.heap.size := by have := q2.size; omega
  clear h0 h1 bel1 q2 HK HW ho2
  obtain ⟨c0, c1, f0, f1⟩ := two_cells g0
  obtain ⟨c2, c3, f2, f3⟩ := two_cells g1
  rcases hbk : bok b with _ | _
  · have hr : expunge b = (nobox, []) := by simp [expunge, hbk]
    have HR := Lib.hid hr
    clear hr HB g0 g1
    go_wp2_with fail
    refine bodyPost_ret (v := .tuple #[.agg #[.int .i64 0, .slice none 0 0], .slice (some ⟨w.heap.size + 1 + 1, 0, none⟩) 0 0]) (by simp [results, Try.results22, go_sem, *]) rfl ⟨_, _, 0, by rw [HR.out]; rfl, ?_, ?_, ?_⟩
    · rw [HR.out]; exact World.ownsRow_nil _ _ _ _
    · rw [HR.out]
      refine OwnInts.more (base := w.heap.size + 2) ?_ (by omega)
      unfold OwnInts
      exact ownsRow_setCell_below (ownsRow_setCell_below HO.out (by simp) _) (by simp) _
    · go_grown
  · have hr : expunge b = (⟨b.next, (exTo b.mail).1⟩, (exTo b.mail).2) := by simp [expunge, hbk]
    have HR := Lib.hid hr
    have hl10 := (bok_next hbk).2.2
    have hall := bok_mok hbk
    have HALL := Lib.hid hall
    obtain ⟨s, hs, hm⟩ := HB.out.below bel2
    have hs : Value.slice a b.mail.length cap = s := by simpa using hs
    subst hs
    have K := mailLink_any b.mail _ w2 hm (by omega)
    have HK := Lib.hid K
    have G0 := Lib.hid g0; have G1 := Lib.hid g1
    clear hr K HB hm hall g0 g1 hbk
    go_wp2_with fail
    refine HK.out.mono ?_
    rintro e w3 ⟨g, ns, rfl, hL, q3⟩
    have k0 := (q3.block _ (by omega)).trans G0.out
    have k1 := (q3.block _ (by omega)).trans G1.out
    have bel3 := bel2.trans (q3.mono bel2.size)
    have z3 := q3.size
    have ho3 : w3.ownsRow (w.heap.size + 2) 3 1 (.slice (some ⟨w.heap.size + 1 + 1, 0, none⟩) 0 0) 0 (([] : List Int).map (Value.int .i64)) := World.ownsRow.kept (row := none) HO.out ⟨q3.os, q3.tape, q3.output, q3.size, fun k hk _ => q3.block k hk⟩ (by simp [Value.ownBlock])
    have hE : Ex w3 w2.heap.size g b.mail.length (.pointer (addr? ns.getLast?)) [] ns [] b.mail := ⟨hL.head, hL.nodes, hL.low, rfl⟩
    have HO3 := Lib.hid ho3; have HE := Lib.hid hE; have K0 := Lib.hid k0; have K1 := Lib.hid k1
    clear c0 c1 c2 c3 f0 f1 f2 f3 HK hL q3 HO G0 G1 ho3 hE k0 k1
    go_wp2_with fail
    have HN := Lib.hid (show ∃ lastv : Value, lastv = .pointer (addr? ns.getLast?) from ⟨_, rfl⟩)
    go_loopg [4, 6, 7] b.mail.length (fun gk ps pl lk wr => ∃ (k cp g' : Nat) (ks rs : List Nat) (kl rl : List M) (l : List Int), rl.length ≤ gk ∧ gk ≤ rl.length ∧ kl.length + k + rl.length = b.mail.length ∧ ps = .slice (some ⟨g', 0, none⟩) k cp ∧ pl = .int .i64 (((kl.length : Nat) : Int) + 1) ∧ lk = .pointer (some (linkAt g ks)) ∧
      Hid (Ex wr w2.heap.size g b.mail.length (.pointer (addr? ns.getLast?)) ks rs kl rl) ∧ Hid (rl.foldl exStep (kl, l) = exTo b.mail) ∧ Hid (∀ m ∈ rl, mok m = true) ∧ Hid (wr.ownsRow (w.heap.size + 2) 3 1 (.slice (some ⟨g', 0, none⟩) k cp) k (l.map (Value.int .i64))) ∧ Below w.heap.size w wr ∧
      Hid (wr.heap[w.heap.size]? = some (.cells #[.int .i64 b.next, .slice a b.mail.length cap] 29 (0, 0))) ∧ Hid (wr.heap[w.heap.size + 1]? = some (.cells #[.int .i64 0, .slice none 0 0] 29 (0, 0))))
    case atStart => exact ⟨0, 0, _, [], ns, [], b.mail, [], by omega, by omega, by simp, rfl, rfl, rfl, HE.out, rfl, HALL.out, HO3.out, bel3, K0.out, K1.out⟩
    case round =>
      obtain ⟨k, cp, g', ks, rs, kl, rl, l, hg1, hg2, hlen, rfl, rfl, rfl, HE2, HF, HM, HR2, hq, K0', K1'⟩ := hrel
      clear HE HO3 HALL K0 K1 bel3
      obtain ⟨lb, lo, lcs, lt, hla, y0, y1, y2, y3, y4, y5⟩ := HE2.out.link
      have HLA := Lib.hid hla
      rw [hla]
      clear hla
      obtain ⟨kn, hkn⟩ : ∃ kn, kl.length = kn := ⟨_, rfl⟩
      rw [hkn] at hlen ⊢
      have HKN := Lib.hid hkn
      clear hkn
      rcases rl with _ | ⟨m, rl⟩
      · have hrs : rs = [] := by
          have h1 := HE2.out.nodes.len
          have h2 := HE2.out.len
          simp at h1
          exact List.eq_nil_of_length_eq_zero (by omega)
        subst hrs
        have hE2 : exTo b.mail = (kl, l) := HF.out.symm
        have HX := Lib.hid hE2
        have hHe := HE2.out.head
        have hNo := HE2.out.nodes
        simp only [List.append_nil] at hHe hNo
        have hKS := fun (W : World) (hW : Below wr.heap.size wr W) => slice_any w2.heap.size g b.mail.length _ ks kl W ((hW.block _ (lt_of_block hHe)).trans hHe) (hNo.below hW) (by simp at hlen; rw [HKN.out]; omega) (by omega)
        rw [HKN.out] at hKS
        have CS := Lib.hid hKS
        obtain ⟨c0, c1, f0, f1⟩ := two_cells K0'.out
        have z5 := lt_of_block K1'.out
        clear hE2 hHe hNo hKS HF HM
        have y0' : wr.cell? ⟨lb, lo, none⟩ = some (.pointer none) := y0
        clear y0 y4
        go_wp2_with fail
        go_region_held3 (fun W => W.cell? ⟨w.heap.size, 0, none⟩ = some (.int .i64 b.next)) (first | exact c0 | (go_keep; done))
          ((go_at_call 53; refine (CS.out _ (by first | exact Below.refl _ _ | exact (Below.refl _ _).drew)).mono ?_; rintro e w5 ⟨g5, cap5, rfl, ho, q5⟩;
            have k0 := (q5.block w.heap.size (by show _ < wr.heap.size; omega)).trans K0'.out; have k1 := (q5.block (w.heap.size + 1) (by show _ < wr.heap.size; omega)).trans K1'.out;
            have bel5 : Below w.heap.size w w5 := Below.trans (by first | exact hq | exact hq.drew) (q5.mono (by show _ ≤ wr.heap.size; omega));
            have hr5 : w5.ownsRow (w.heap.size + 2) 3 1 (.slice (some ⟨g', 0, none⟩) k cp) k (l.map (Value.int .i64)) := World.ownsRow.kept (row := none) (by first | exact HR2.out | exact HR2.out.drew) ⟨q5.os, q5.tape, q5.output, q5.size, fun j hj _ => q5.block j hj⟩ (by simp [Value.ownBlock]);
            obtain ⟨c0, c1, f0, f1⟩ := two_cells k0; obtain ⟨c2, c3, f2, f3⟩ := two_cells k1; have s5 := lt_of_block k1; have HO := Lib.hid ho; have HR5 := Lib.hid hr5; clear k0 k1 ho q5 hr5))
        go_wp2_with fail
        refine bodyPost_ret (v := .tuple #[.agg #[.int .i64 b.next, .slice (some ⟨g5, 0, none⟩) kn cap5], .slice (some ⟨g', 0, none⟩) k cp]) (by simp [results, Try.results22, go_sem, *]) rfl ⟨.slice (some ⟨g5, 0, none⟩) kn cap5, g', cp, ?_, ?_, ?_, ?_⟩
        · rw [HR.out, HX.out, (OwnInts.mk HR5.out).2]
        · rw [HR.out, HX.out]
          exact ((HO.out.setLow (by show w.heap.size + 1 < wr.heap.size; omega) _).setLow (by show w.heap.size + 1 < wr.heap.size; omega) _).more (by show _ ≤ wr.heap.size; omega)
        · rw [HR.out, HX.out, (OwnInts.mk HR5.out).2]
          have h5 := ownsRow_setCell_below (ownsRow_setCell_below HR5.out (a := ⟨w.heap.size + 1, 0, none⟩) (by show w.heap.size + 1 < w.heap.size + 2; omega) (.int .i64 b.next)) (a := ⟨w.heap.size + 1, 1, none⟩) (by show w.heap.size + 1 < w.heap.size + 2; omega) (.slice (some ⟨g5, 0, none⟩) kn cap5)
          exact (OwnInts.mk h5).1.more (by omega)
        · exact (bel5.setCell (by show w.heap.size ≤ w.heap.size + 1; omega) _).setCell (by show w.heap.size ≤ w.heap.size + 1; omega) _
      · rcases rs with _ | ⟨n, rs⟩
        · exfalso
          have h1 := HE2.out.nodes.len
          have h2 := HE2.out.len
          simp at h1
          omega
        · obtain ⟨d0, d1, d2, d3, d4⟩ := HE2.out.next
          have hmk := HM.out m (by simp)
          have hdel := del_have hmk
          have HMK := Lib.hid hmk
          have y0' : wr.cell? ⟨lb, lo, none⟩ = some (.pointer (some ⟨n, 0, none⟩)) := y0
          have HD := Lib.hid hdel
          clear y0 y4 hmk hdel
          go_wp2_with fail
          refine (implFlagsHave_any m.flags 8 _).mono ?_
          rintro e w' ⟨rfl, rfl⟩
          rw [HD.out]
          rcases hdl : del m with _ | _
          · have hst : exStep (kl, l) m = (kl ++ [m], l) := by simp [exStep, hdl]
            obtain ⟨E1, E2⟩ := HE2.out.stay
            have hf2 : rl.foldl exStep (kl ++ [m], l) = exTo b.mail := by rw [← HF.out, List.foldl_cons, hst]
            have hk2 : (kl ++ [m]).length = kn + 1 := by rw [List.length_append, HKN.out]; rfl
            have HE1 := Lib.hid E1; have HE3 := Lib.hid E2; have HF2 := Lib.hid hf2; have HK2 := Lib.hid hk2
            clear hst E1 E2 hf2 hdl hk2
            go_wp2_with fail
            go_roundg (gk - 1)
            case measure => simp at hg1; omega
            case rel => exact ⟨k, cp, g', ks ++ [n], rs, kl ++ [m], rl, l, by simp at hg1; omega, by simp at hg2; omega, by simp at hlen; rw [HK2.out]; omega, rfl, by rw [HK2.out]; go_num, by rw [HE3.out], HE1.out, HF2.out, fun x hx => HM.out x (by simp [hx]), HR2.out, hq, K0'.out, K1'.out⟩
          · have hst : exStep (kl, l) m = (kl, l ++ [((kl.length : Nat) : Int) + 1]) := by simp [exStep, hdl]
            rw [HKN.out] at hst
            have hf2 : rl.foldl exStep (kl, l ++ [((kn : Nat) : Int) + 1]) = exTo b.mail := by rw [← HF.out, List.foldl_cons, hst]
            have HF2 := Lib.hid hf2
            have hown : (wr.alloc (.cells #[.int .i64 ((kn : Int) + 1)] 3)).ownsRow (w.heap.size + 2) 3 1 (.slice (some ⟨g', 0, none⟩) k cp) k (l.map (Value.int .i64)) := HR2.out.alloc _
            have HO := Lib.hid hown
            have hzz := lt_of_block K1'.out
            clear hst hf2 hdl hown
            go_wp2_with (at_builtin; refine wpList_append_lies _ rfl _ _ _ rfl (w.heap.size + 2) 3 j0 (.int .i64 0) 1 8 Try.underlying37 hj hy0 hy1 hy2 rfl (by omega) _ k _ rfl HO.out ⟨wr.heap.size, 0, none⟩ 1 1 [.int .i64 ((kn : Int) + 1)] rfl rfl (cell_one_new _ _ _) (by simp [Value.oneCell']) (by omega) (by unfold maxLen; omega) (by omega) (by simp; omega) (wr.heap.size + 1) (by simp) ?_)
            intro g2 cap2 w4 hown4 hgrow hat hlt4
            have q4 : Below w.heap.size w w4 := (hq.alloc hq.size _).grown hgrow (by have := hq.size; simp; omega) (fun k hk => by simp [Value.ownBlock] at hk; have := row_base HO.out; omega)
            have r4 : w4.ownsRow (w.heap.size + 2) 3 1 (.slice (some ⟨g2, 0, none⟩) (k + 1) cap2) (k + 1) ((l ++ [((kn : Nat) : Int) + 1]).map (Value.int .i64)) := by rw [List.map_append]; exact hown4
            have E4 := (HE2.out.below ((Below.refl _ _).alloc (Nat.le_refl _) (.cells #[.int .i64 ((kn : Int) + 1)] 3))).kept HO.out (by decide) (by decide) hgrow
            have k0 := block_kept ((Below.heap_alloc wr _ _ (lt_of_block K0'.out)).trans K0'.out) (by decide) HO.out hgrow
            have k1 := block_kept ((Below.heap_alloc wr _ _ (lt_of_block K1'.out)).trans K1'.out) (by decide) HO.out hgrow
            obtain ⟨lb', lo', lcs', lt', hla', z0, z1, z2, z3, z4, z5⟩ := E4.link
            rw [HLA.out] at hla'
            cases hla'
            obtain ⟨d0, d1, d2, d3, d4⟩ := E4.next
            have y0'' : w4.cell? ⟨lb, lo, none⟩ = some (.pointer (some ⟨n, 0, none⟩)) := z0
            have E5 := E4.drop
            rw [HLA.out] at E5
            have r5 := row_set r4 z4 z5 lo (.pointer (addr? rs[0]?))
            have k0' := (set_off (o := lo) (u := .pointer (addr? rs[0]?)) (show w.heap.size ≠ lb by omega)).trans k0
            have k1' := (set_off (o := lo) (u := .pointer (addr? rs[0]?)) (show w.heap.size + 1 ≠ lb by omega)).trans k1
            have R5 := Lib.hid r5; have HE5 := Lib.hid E5; have K05 := Lib.hid k0'; have K15 := Lib.hid k1'
            have q5 : Below w.heap.size w (w4.setCell ⟨lb, lo, none⟩ (.pointer (addr? rs[0]?))) := q4.setCell (by show _ ≤ lb; omega) _
            clear hown4 hgrow hat r4 HO E4 E5 k0 k1 k0' k1' r5 z0 z4
            go_wp2_with fail
            go_roundg (gk - 1)
            case measure => simp at hg1; omega
            case rel => exact ⟨k + 1, cap2, g2, ks, rs, kl, rl, _, by simp at hg1; omega, by simp at hg2; omega, by simp at hlen; rw [HKN.out]; omega, rfl, by rw [HKN.out], by rw [HLA.out], HE5.out, HF2.out, fun x hx => HM.out x (by simp [hx]), R5.out, q5, K05.out, K15.out⟩
end Go.Proofs.Ytjcfjhimfbglhaa

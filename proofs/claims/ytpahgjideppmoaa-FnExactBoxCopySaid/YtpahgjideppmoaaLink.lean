/- WALKS: the program's linked list of messages: a message is added, a list is made of a slice, a slice of a list; a mailbox is copied. -/
import Derived.Test.YtpahgjideppmoaaList
import Derived.Test.YtpahgjideppmoaaFlags2
import Derived.Deep.RegionLaw
import Derived.Deep.AppendLies
import Derived.Deep.DeepCutAuto
import Derived.Deep.RegionHeld3
import Derived.Deep.LoopGhost
import Derived.OwnWalk
namespace Go.Proofs.Ytpahgjideppmoaa
open Go.RowKit
set_option linter.unusedVariables false

set_option maxHeartbeats 400000 in
theorem add_any (B g : Nat) (ns : List Nat) (l : List M) (m : M) (w : World) (h : Lst w B g ns l) (hl : l.length ≤ 1000000) :
    Calls Try.prog 38 #[.pointer (some ⟨g, 0, none⟩), .agg #[.int .i64 m.uid, .int .i64 m.flags, .string m.text]] w fun e w' => e = .returned (.tuple #[]) ∧ (∃ n, Lst w' B g (ns ++ [n]) (l ++ [m])) ∧ Below B w w' := by
  have hB := h.low
  have hg := lt_of_block h.head
  obtain ⟨v, hv⟩ : ∃ v, v = (w.alloc (.cells #[.int .i64 m.uid, .int .i64 m.flags, .string m.text] 47)).alloc (.cells #[.int .i64 m.uid, .int .i64 m.flags, .string m.text, .pointer none] 78) := ⟨_, rfl⟩
  have bv : Below w.heap.size w v := by rw [hv]; go_grown
  have hn : v.heap[w.heap.size + 1]? = some (.cells (nodeCells m none) 78 (0, 0)) := by
    rw [hv]
    unfold nodeCells
    rw [addr_none]
    have := heap_alloc_new (w.alloc (.cells #[.int .i64 m.uid, .int .i64 m.flags, .string m.text] 47)) (.cells #[.int .i64 m.uid, .int .i64 m.flags, .string m.text, .pointer none] 78)
    simpa using this
  have hL := h.below bv
  have hall : ∀ k ∈ ns, k < w.heap.size + 1 := fun k hk => by have := h.nodes.lt hk; omega
  have bB : Below B w v := bv.mono (by omega)
  obtain ⟨c0, c1, c2, f0, f1, f2⟩ := three_cells hL.head
  have hgv := lt_of_block hL.head
  have HV := Lib.hid hv; have HN := Lib.hid hn; have HL := Lib.hid hL; have HA := Lib.hid hall
  clear hv hn hall bv h
  go_enter Try.func38, Try.ntmps38
  go_upto_region 2 with fail
  rw [← HV.out]
  rcases hp : ns.getLast? with _ | p
  · obtain rfl : ns = [] := List.getLast?_eq_none_iff.1 hp
    obtain rfl : l = [] := List.eq_nil_of_length_eq_zero (by have := hL.nodes.len; simpa using this.symm)
    rw [hp, addr_none] at c1
    clear hp hL
    go_wp2_with fail
    go_end0
    exact ⟨rfl, ⟨_, HL.out.add0 HN.out (by omega)⟩, ((bB.setCell hB _).setCell hB _).setCell hB _⟩
  · rw [hp, addr_some] at c1
    have hpm : p ∈ ns := List.mem_of_getLast? hp
    have hpB := hL.nodes.low p hpm
    have hpg := show p ≠ g from fun e => hL.gnot (e ▸ hpm)
    have hpl : ns[ns.length - 1]? = some p := by rw [← hp, List.getLast?_eq_getElem?]
    have hmm := List.getElem?_eq_getElem (l := l) (i := ns.length - 1) (by have := hL.nodes.len; have := List.length_pos_of_mem hpm; omega)
    obtain ⟨d0, d1, d2, d3, e1, e3⟩ := hL.nodes.cells hpl hmm
    have HP := Lib.hid hp
    clear hp hL hpm hpl hmm d0 d1 d2 e1
    go_wp2_with fail
    go_end0
    exact ⟨rfl, ⟨_, HL.out.add1 HP.out HN.out (by omega) HA.out⟩, ((bB.setCell hpB _).setCell hB _).setCell hB _⟩
set_option maxHeartbeats 400000 in
theorem mailLink_any (l : List M) (v : Value) (w : World) (hb : MailAt w v l) (hl : l.length ≤ 1000000) :
    Calls Try.prog 37 #[v] w fun e w' => ∃ (g : Nat) (ns : List Nat), e = .returned (.pointer (some ⟨g, 0, none⟩)) ∧ Lst w' w.heap.size g ns l ∧ Below w.heap.size w w' := by
  obtain ⟨a, L, cap, rfl, hL, hcap, ⟨hmax, hnil⟩, hmail⟩ := hb
  clear hnil
  have HL := Lib.hid hL
  obtain ⟨w1, hw1⟩ : ∃ w1, w1 = w.alloc (.cells #[.pointer none, .pointer none, .int .i64 0] 76) := ⟨_, rfl⟩
  have bel : Below w.heap.size w w1 := by rw [hw1]; exact (Below.refl _ _).alloc (Nat.le_refl _) _
  have hls : Lst w1 w.heap.size w.heap.size [] (l.take 0) := ⟨by rw [hw1]; exact heap_alloc_new w _, Nodes.nil _ _, Nat.le_refl _⟩
  have HW := Lib.hid hw1
  have HLS := Lib.hid hls
  clear hw1 hL hls
  go_enter Try.func37, Try.ntmps37
  go_wp2_with fail
  rw [← HW.out]
  go_loopw [10] (fun i wr => ∃ (n : Nat) (ns : List Nat), n ≤ L ∧ i = .int .i64 n ∧ Hid (Lst wr w.heap.size w.heap.size ns (l.take n)) ∧ Below w.heap.size w wr) (fun i _ => L - (intOf i).toNat)
  case atStart => exact ⟨0, [], by omega, rfl, HLS.out, bel⟩
  case round =>
    obtain ⟨n, ns, hnL, rfl, HR, hq⟩ := hrel
    clear HLS HW bel
    by_cases hlt : n < L
    · rcases hmail with h0 | ⟨g, off, rfl, hg, hcells⟩
      · omega
      have hlt' : n < l.length := by rw [HL.out]; exact hlt
      obtain ⟨c0, c1, c2⟩ := hcells n _ (List.getElem?_eq_getElem hlt')
      have k : ∀ o v, w.cell? ⟨g, o, none⟩ = some v → wr.cell? ⟨g, o, none⟩ = some v := fun o v h => (hq.cell (p := ⟨g, o, none⟩) hg).trans h
      have c0 := k _ _ c0
      have c1 := k _ _ c1
      have c2 := k _ _ c2
      have hst : l.take (n + 1) = l.take n ++ [l[n]] := List.take_succ_eq_append_getElem hlt'
      obtain ⟨m, hm⟩ : ∃ m, l[n] = m := ⟨_, rfl⟩
      rw [hm] at c0 c1 c2 hst
      have HST := Lib.hid hst
      have hlen : (l.take n).length ≤ 1000000 := by simp; omega
      clear k hcells hm hst
      go_wp2_with fail
      refine (add_any w.heap.size w.heap.size ns (l.take n) m _ (HR.out.below ((Below.refl _ _).alloc (Nat.le_refl _) _)) hlen).mono ?_
      rintro e w2 ⟨rfl, ⟨k, hk⟩, q2⟩
      have q3 : Below w.heap.size w w2 := (hq.alloc hq.size _).trans q2
      rw [← HST.out] at hk
      have HK := Lib.hid hk
      clear c0 c1 c2 q2 hk HR hlen
      go_wp2_with fail
      go_roundw
      case rel => exact ⟨n + 1, ns ++ [k], by omega, by go_num, HK.out, q3⟩
      case measure => simp [intOf]; omega
    · have : n = L := by omega
      subst this
      have hA : l.take n = l := by rw [← HL.out, List.take_length]
      have HA := Lib.hid hA
      clear hA hmail
      go_wp2_with fail
      go_ret
      exact ⟨_, ns, rfl, by have := HR.out; rw [HA.out] at this; exact this, hq⟩
set_option maxHeartbeats 400000 in
/-- The slice of a list: the list's count bounds its room alone. -/
theorem slice_any (B g c : Nat) (last : Value) (ns : List Nat) (l : List M) (w : World) (hh : w.heap[g]? = some (.cells #[.pointer (addr? ns[0]?), last, .int .i64 c] 76 (0, 0))) (h : Nodes w B ns l) (hl : l.length ≤ 1000000) (hc : c ≤ 1000000) :
    Calls Try.prog 39 #[.pointer (some ⟨g, 0, none⟩)] w fun e w' => ∃ (g : Nat) (cap : Nat), e = .returned (.slice (some ⟨g, 0, none⟩) l.length cap) ∧ Own w' w.heap.size (.slice (some ⟨g, 0, none⟩) l.length cap) l ∧ Below w.heap.size w w' := by
  obtain ⟨i0, hi, hz0, hz1, hz2⟩ := info_parts Try.infoMail
  obtain ⟨c0, c1, c2, f0, f1, f2⟩ := three_cells hh
  have hg := lt_of_block hh
  have HH := Lib.hid h
  have HD := Lib.hid hh
  obtain ⟨L, hL⟩ : ∃ L, l.length = L := ⟨_, rfl⟩
  have HL := Lib.hid hL
  have hnl : ns.length = L := by rw [h.len]; exact hL
  have HNL := Lib.hid hnl
  rw [hL] at hl ⊢
  clear hh f0 f1 f2 h hL hnl
  go_enter Try.func39, Try.ntmps39
  go_wp2_with (at_make; refine wpList_make_own _ rfl _ _ 27 rfl w.heap.size 47 i0 (.agg #[.int .i64 0, .int .i64 0, .string ⟨#[]⟩]) 3 Try.underlying27 hi hz0 hz1 .i64 .i64 _ c rfl rfl rfl (by rw [hz2]; omega) (by unfold maxLen; omega) (Nat.le_refl _) ?_; intro w0 hown0 hgrow0; have k0 := (hgrow0.block g hg (by simp)).trans HD.out; have b0 : Below w.heap.size w w0 := ⟨hgrow0.os, hgrow0.tape, hgrow0.output, hgrow0.size, fun k hk => hgrow0.block k hk (by simp)⟩; obtain ⟨c0, c1, c2, f0, f1, f2⟩ := three_cells k0; have HO := Lib.hid hown0; clear k0 hown0 hgrow0)
  go_loopg [3, 4] L (fun gk mail node wr => ∃ (n cap g' : Nat), n + gk = L ∧ mail = .slice (some ⟨g', 0, none⟩) n cap ∧ node = .pointer (addr? ns[n]?) ∧ Hid (wr.ownsRow w.heap.size 47 3 (.slice (some ⟨g', 0, none⟩) n cap) n (rowOf (l.take n))) ∧ Below w.heap.size w wr)
  case atStart => exact ⟨0, c, _, by omega, rfl, rfl, HO.out, b0⟩
  case round =>
    obtain ⟨n, cap, g', hn, rfl, rfl, HR, hq⟩ := hrel
    clear HO b0
    by_cases hlt : n < L
    · have hk := List.getElem?_eq_getElem (l := ns) (i := n) (by rw [HNL.out]; exact hlt)
      have hm := List.getElem?_eq_getElem (l := l) (i := n) (by rw [HL.out]; exact hlt)
      have hst : l.take (n + 1) = l.take n ++ [l[n]'(by rw [HL.out]; exact hlt)] := List.take_succ_eq_append_getElem _
      generalize ns[n]'(by rw [HNL.out]; exact hlt) = k at hk
      generalize l[n]'(by rw [HL.out]; exact hlt) = m at hm hst
      obtain ⟨d0, d1, d2, d3, e1, e3⟩ := (HH.out.below hq).cells hk hm
      rw [hk, addr_some]
      have HK := Lib.hid hk; have HM := Lib.hid hm; have HS := Lib.hid hst
      clear hk hm hst c0 c1 c2 f0 f1 f2
      have hown : (wr.alloc (.cells #[.int .i64 m.uid, .int .i64 m.flags, .string m.text] 47)).ownsRow w.heap.size 47 3 (.slice (some ⟨g', 0, none⟩) n cap) n (rowOf (l.take n)) := HR.out.alloc _
      have hnews : ∀ (j : Nat) u, (rowOf [m])[j]? = some u → (wr.alloc (.cells #[.int .i64 m.uid, .int .i64 m.flags, .string m.text] 47)).cell? ((⟨wr.heap.size, 0, none⟩ : Addr).add j) = some u := by
        intro j u hu
        rw [add_at, Nat.zero_add]
        exact cell_of_block (heap_alloc_new wr _) (by simpa [rowOf, mcells] using hu)
      have HO := Lib.hid hown; have HN := Lib.hid hnews
      clear hown hnews
      go_wp2_with (at_builtin; refine wpList_append_lies _ rfl _ _ _ rfl w.heap.size 47 i0 (.agg #[.int .i64 0, .int .i64 0, .string ⟨#[]⟩]) 3 32 Try.underlying27 hi hz0 hz1 hz2 rfl (by omega) _ n _ rfl HO.out ⟨wr.heap.size, 0, none⟩ 1 1 (rowOf [m]) rfl rfl HN.out (rowOf_one _) (by omega) (by unfold maxLen; omega) (by omega) (by have := hq.size; simp; omega) (wr.heap.size + 1) (by simp) ?_)
      intro g2 cap2 w4 hown4 hgrow hat hlt4
      have q4 : Below w.heap.size w w4 := (hq.alloc hq.size _).grown hgrow (by have := hq.size; simp; omega) (fun k hk => by simp [Value.ownBlock] at hk; have := row_base HO.out; omega)
      have r4 : w4.ownsRow w.heap.size 47 3 (.slice (some ⟨g2, 0, none⟩) (n + 1) cap2) (n + 1) (rowOf (l.take (n + 1))) := by rw [HS.out, rowOf_append]; exact hown4
      obtain ⟨x0, x1, x2, x3, y1, y3⟩ := (HH.out.below q4).cells HK.out HM.out
      have R4 := Lib.hid r4
      clear hown4 hgrow hat r4 d0 d1 d2 d3 HO HN
      go_wp2_with fail
      go_roundg (gk - 1)
      case measure => omega
      case rel => exact ⟨n + 1, cap2, g2, by omega, rfl, rfl, R4.out, q4⟩
    · obtain rfl : n = L := by omega
      have hk : ns[n]? = none := List.getElem?_eq_none (by rw [HNL.out]; omega)
      rw [hk, addr_none]
      have hA : l.take n = l := by rw [← HL.out, List.take_length]
      have HA := Lib.hid hA
      clear hA hk
      go_wp2_with fail
      go_ret
      refine ⟨g', cap, rfl, ?_, hq⟩
      unfold Own
      rw [HL.out]
      have := HR.out
      rw [HA.out] at this
      exact this
end Go.Proofs.Ytpahgjideppmoaa

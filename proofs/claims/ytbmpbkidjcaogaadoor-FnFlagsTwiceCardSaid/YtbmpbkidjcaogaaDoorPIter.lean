/- WALKS: the library's iterator over a text's words. -/
import Derived.Test.YtbmpbkidjcaogaaDoorPCut
import Derived.Test.YtbmpbkidjcaogaaDoorPLoop
import Derived.Shelf.Abstract
import Derived.OwnWalkIn
import Derived.TacticsInMore
import Derived.LoopNIn
import Derived.LoopIn
namespace Go.Proofs.YtbmpbkidjcaogaaDoor
open Go.RowKit Go.Shelf
set_option linter.unusedVariables false

attribute [local go_sem] Oper.semAt_some

theorem box_one {w : World} {b : Nat} {x : Value} {t : TypeId} (h : w.heap[b]? = some (.cells #[x] t (0, 0))) : w.cell? ⟨b, 0, none⟩ = some x ∧ w.frozen? ⟨b, 0, none⟩ = false := by
  simp [World.cell?, World.frozen?, h]
theorem box_put {w : World} {b : Nat} {x y : Value} {t : TypeId} (h : w.heap[b]? = some (.cells #[x] t (0, 0))) : (w.setCell ⟨b, 0, none⟩ y).heap[b]? = some (.cells #[y] t (0, 0)) := by
  have hlt := lt_of_block h
  have h' : w.heap[b] = .cells #[x] t (0, 0) := by simpa [Array.getElem?_eq_getElem hlt] using h
  show (w.heap.modify b _)[b]? = _
  rw [Array.getElem?_eq_getElem (by simpa using hlt), Array.getElem_modify_self, h']
  rfl
def strLen : Option Value → Nat
  | some (.string s) => s.size
  | _ => 0
def lists (l : List ByteArray) : List (List UInt8) := l.map (·.data.toList)
theorem lists_snoc (l : List ByteArray) (x : ByteArray) : lists (l ++ [x]) = lists l ++ [x.data.toList] := by simp [lists]
/-- What a round keeps: the iterator's three variables. -/
structure Keep3 (cs cp cz : Nat) (W W' : World) : Prop where
  s : W'.heap[cs]? = W.heap[cs]?
  p : W'.heap[cp]? = W.heap[cp]?
  z : W'.heap[cz]? = W.heap[cz]?
theorem Keep3.trans {cs cp cz : Nat} {A B C : World} (h : Keep3 cs cp cz A B) (k : Keep3 cs cp cz B C) : Keep3 cs cp cz A C := ⟨k.s.trans h.s, k.p.trans h.p, k.z.trans h.z⟩
/-- What the iterator's variables hold. -/
structure It (cs cp cz : Nat) (s : ByteArray) (W : World) : Prop where
  s : W.heap[cs]? = some (.cells #[.string s] 9 (0, 0))
  p : W.heap[cp]? = some (.cells #[.string ⟨#[32]⟩] 9 (0, 0))
  z : W.heap[cz]? = some (.cells #[.int .i64 0] 3 (0, 0))
theorem It.keep {cs cp cz : Nat} {s : ByteArray} {W W' : World} (h : It cs cp cz s W) (k : Keep3 cs cp cz W W') : It cs cp cz s W' := ⟨k.s.trans h.s, k.p.trans h.p, k.z.trans h.z⟩
theorem It.put {cs cp cz : Nat} {s s' : ByteArray} {W : World} (h : It cs cp cz s W) (h1 : cs ≠ cp) (h2 : cs ≠ cz) : It cs cp cz s' (W.setCell ⟨cs, 0, none⟩ (.string s')) :=
  ⟨box_put h.s, (Below.heap_setCell _ _ _ _ (by show cp ≠ cs; exact fun e => h1 e.symm)).trans h.p, (Below.heap_setCell _ _ _ _ (by show cz ≠ cs; exact fun e => h2 e.symm)).trans h.z⟩
theorem It.len {cs cp cz : Nat} {s : ByteArray} {W : World} (h : It cs cp cz s W) : strLen (W.cell? ⟨cs, 0, none⟩) = s.size := by rw [(box_one h.s).1]; rfl
theorem idx_none {l : List UInt8} (h : Lib.indexByte l 32 = -1) : wordsL l = [l] := by
  refine wordsL_none l fun c hc e => ?_
  subst e
  obtain ⟨k, hk⟩ := List.mem_iff_getElem?.1 hc
  exact Lib.indexByte_none h k hk
theorem idx_some {l : List UInt8} {o : Nat} (h : Lib.indexByte l 32 = (o : Int)) : o < l.length ∧ wordsL l = l.take o :: wordsL (l.drop (o + 1)) := by
  obtain ⟨h1, h2⟩ := Lib.indexByte_some h
  obtain ⟨hlt, he⟩ := List.getElem?_eq_some_iff.1 h1
  refine ⟨hlt, ?_⟩
  have e : l = l.take o ++ 32 :: l.drop (o + 1) := by
    rw [← he, List.getElem_cons_drop, List.take_append_drop]
  conv => lhs; rw [e]
  refine wordsL_cut _ _ fun c hc ec => ?_
  subst ec
  obtain ⟨k, hk⟩ := List.mem_iff_getElem?.1 hc
  have hk2 := (List.getElem?_eq_some_iff.1 hk).1
  rw [List.length_take] at hk2
  rw [List.getElem?_take_of_lt (by omega)] at hk
  exact h2 k (by omega) hk
set_option maxRecDepth 100000 in
set_option maxHeartbeats 2000000 in
theorem split_iter (n cs cp cz : Nat) (hn : 1 ≤ n) (s0 : ByteArray) (h0s : s0.size ≤ 1000000000) (w : World) (hIt : It cs cp cz s0 w) (h1 : cs ≠ cp) (h2 : cs ≠ cz) :
    IterBox n Tryd.prog 37 #[.pointer (some ⟨cp, 0, none⟩), .pointer (some ⟨cs, 0, none⟩), .pointer (some ⟨cz, 0, none⟩)] (fun x : ByteArray => #[.string x]) (· = cs) (Keep3 cs cp cz)
      (fun ys => lists ys = wordsL s0.data.toList) (fun pre => ∃ r, wordsL s0.data.toList = lists pre ++ r) w := by
  intro l J Jx W hW hJs hY hJ0
  have hf39 : Fence.wide.fn 39 := trivial
  have hIW : It cs cp cz s0 W := ⟨(hW.block _ (lt_of_block hIt.s)).trans hIt.s, (hW.block _ (lt_of_block hIt.p)).trans hIt.p, (hW.block _ (lt_of_block hIt.z)).trans hIt.z⟩
  obtain ⟨c0, c1⟩ := box_one hIW.s
  obtain ⟨p0, p1⟩ := box_one hIW.p
  obtain ⟨z0, z1⟩ := box_one hIW.z
  have HIW := Lib.hid hIW
  clear hIt hIW hW
  refine callsIn_of_wp Tryd.func37 rfl trivial ?_ rfl
  simp only [Tryd.ntmps37, List.size_toArray, List.length_cons, List.length_nil, Nat.reduceAdd, Nat.reduceSub, Array.replicate_succ, Array.replicate_zero, List.push_toArray, List.append_toArray, List.nil_append, List.cons_append]
  gi_wp2
  gi_loopw [7] (fun p wr => ∃ (pre : List ByteArray) (s : ByteArray), Hid (wordsL s0.data.toList = lists pre ++ wordsL s.data.toList) ∧ Hid (It cs cp cz s wr) ∧ s.size ≤ 1000000000 ∧ J pre wr) (fun p wr => strLen (wr.cell? ⟨cs, 0, none⟩))
  case atStart => exact ⟨[], s0, rfl, HIW.out, h0s, hJ0⟩
  case round =>
    clear HIW c0 c1 p0 p1 z0 z1
    obtain ⟨pre, s, HWD, HI, hs, hJ⟩ := hrel
    obtain ⟨c0, c1⟩ := box_one HI.out.s
    obtain ⟨p0, p1⟩ := box_one HI.out.p
    obtain ⟨z0, z1⟩ := box_one HI.out.z
    have hge := Lib.indexByte_ge s.data.toList 32
    by_cases hneg : Lib.indexByte s.data.toList 32 = -1
    · have hw := idx_none hneg
      have hidx := Tryd.strings_Index_one s 32 wr
      rw [hneg] at hidx
      have HX := Lib.hid hidx
      have hall : wordsL s0.data.toList = lists (pre ++ [s]) := by rw [HWD.out, hw, lists_snoc]
      have HALL := Lib.hid hall
      clear hw hidx hneg hge hall
      obtain ⟨fn, tmps, assign, body, hy, hR⟩ := hY pre s wr hJ
      have HR := Lib.hid hR
      clear hR
      gi_wp2_with (gi_at_call 39; refine (callsIn_wide.2 HX.out).mono ?_; rintro e w' ⟨rfl, rfl⟩)
      refine HR.out.mono ?_
      rintro e W3 (⟨rfl, hJ3, hk3⟩ | ⟨rfl, hJx3⟩)
      · gi_wp2
        go_end0
        exact ⟨⟨_, rfl⟩, .inl ⟨_, HALL.out.symm, hJ3⟩⟩
      · gi_wp2
        go_end0
        exact ⟨⟨_, rfl⟩, .inr ⟨_, ⟨[], by rw [HALL.out, List.append_nil]⟩, hJx3⟩⟩
    · obtain ⟨o, ho⟩ := Int.eq_ofNat_of_zero_le (show 0 ≤ Lib.indexByte s.data.toList 32 by omega)
      obtain ⟨hol, hw⟩ := idx_some ho
      have hos : o < s.size := by rw [size_list]; exact hol
      have hidx := Tryd.strings_Index_one s 32 wr
      rw [ho] at hidx
      have HX := Lib.hid hidx
      obtain ⟨x, hx⟩ : ∃ x, s.extract 0 o = x := ⟨_, rfl⟩
      obtain ⟨y, hy2⟩ : ∃ y, s.extract (o + 1) s.size = y := ⟨_, rfl⟩
      have hxl : x.data.toList = s.data.toList.take o := by rw [← hx, ← ByteArray.toList_eq, ext_list]; rfl
      have hyl : y.data.toList = s.data.toList.drop (o + 1) := by rw [← hy2, ← ByteArray.toList_eq, ext_list, List.take_of_length_le (by rw [List.length_drop, ← size_list]; omega)]
      have hys : y.size < s.size := by rw [size_list, hyl, List.length_drop, ← size_list]; omega
      have hcut : wordsL s0.data.toList = lists (pre ++ [s.extract 0 o]) ++ wordsL (s.extract (o + 1) s.size).data.toList := by rw [HWD.out, hw, lists_snoc, hx, hy2, hxl, hyl]; simp
      have HCUT := Lib.hid hcut; have HYS := Lib.hid (show (s.extract (o + 1) s.size).size < s.size by rw [hy2]; exact hys)
      obtain ⟨fn, tmps, assign, body, hy, hR⟩ := hY pre (s.extract 0 o) wr hJ
      have HR := Lib.hid hR
      have oI : (o : Int) < (s.size : Int) := by omega
      clear hw hidx hneg hge hcut hxl hyl hR ho hol hx hy2 hys x y
      gi_wp2_with (gi_at_call 39; refine (callsIn_wide.2 HX.out).mono ?_; rintro e w' ⟨rfl, rfl⟩)
      refine HR.out.mono ?_
      rintro e W3 (⟨rfl, hJ3, hk3⟩ | ⟨rfl, hJx3⟩)
      · have HI3 := Lib.hid (HI.out.keep hk3)
        obtain ⟨d0, d1⟩ := box_one HI3.out.s
        obtain ⟨q0, q1⟩ := box_one HI3.out.p
        obtain ⟨r0, r1⟩ := box_one HI3.out.z
        have hlen1 := HI.out.len
        clear hk3 c0 c1 p0 p1 z0 z1
        gi_wp2
        go_roundw
        case rel => exact ⟨pre ++ [s.extract 0 o], s.extract (o + 1) s.size, HCUT.out, HI3.out.put h1 h2, by have := HYS.out; omega, hJs _ _ _ _ rfl hJ3⟩
        case measure =>
          have := HYS.out
          rw [(HI3.out.put (s' := s.extract (o + 1) s.size) h1 h2).len, hlen1]
          exact this
      · gi_wp2
        refine bodyPost_ret (results_none rfl _ _ _) rfl ?_
        exact ⟨⟨_, rfl⟩, .inr ⟨_, ⟨_, HCUT.out⟩, hJx3⟩⟩
end Go.Proofs.YtbmpbkidjcaogaaDoor

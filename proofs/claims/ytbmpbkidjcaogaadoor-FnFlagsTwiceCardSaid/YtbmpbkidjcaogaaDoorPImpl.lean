/- WALKS: the program reads a text of flags. -/
import Derived.Test.YtbmpbkidjcaogaaDoorPIter
namespace Go.Proofs.YtbmpbkidjcaogaaDoor
open Go.RowKit Go.Shelf
set_option linter.unusedVariables false

attribute [local go_sem] Oper.semAt_some

theorem splitSeq_any (s p : ByteArray) (w : World) :
    Calls Tryd.prog 30 #[.string s, .string p, .int .i64 0] w fun e w' => e = .returned (.func (.func 37) #[] #[.pointer (some ⟨w.heap.size + 1, 0, none⟩), .pointer (some ⟨w.heap.size, 0, none⟩), .pointer (some ⟨w.heap.size + 1 + 1, 0, none⟩)]) ∧ w' = ((w.alloc (.cells #[.string s] 9)).alloc (.cells #[.string p] 9)).alloc (.cells #[.int .i64 0] 3) := by
  go_enter Tryd.func30, Tryd.ntmps30
  go_wp2_with fail
  go_ret
  exact ⟨rfl, rfl⟩
theorem SplitSeq_any (s p : ByteArray) (w : World) :
    Calls Tryd.prog 19 #[.string s, .string p] w fun e w' => e = .returned (.func (.func 37) #[] #[.pointer (some ⟨w.heap.size + 1, 0, none⟩), .pointer (some ⟨w.heap.size, 0, none⟩), .pointer (some ⟨w.heap.size + 1 + 1, 0, none⟩)]) ∧ w' = ((w.alloc (.cells #[.string s] 9)).alloc (.cells #[.string p] 9)).alloc (.cells #[.int .i64 0] 3) := by
  go_enter Tryd.func19, Tryd.ntmps19
  go_wp2_with fail
  refine (splitSeq_any s p w).mono ?_
  rintro e w' ⟨rfl, rfl⟩
  go_wp2_with fail
  go_ret
  exact ⟨rfl, rfl⟩
theorem cut_no1 {l : List UInt8} (h : (l.head? == some 40) = false) : innerL l = none := by
  unfold innerL
  rw [if_neg]
  rintro ⟨_, h1, _⟩
  rw [h1] at h; cases h
theorem cut_no2 {l : List UInt8} (h : (l.head? == some 40) = true) (h2 : ((l.drop 1).getLast? == some 41) = false) : innerL l = none := by
  unfold innerL
  rw [if_neg]
  rintro ⟨hl, h1, h3⟩
  match l, h1 with
  | c :: r, _ =>
    have hr : r ≠ [] := by intro e; subst e; simp at hl
    rw [List.getLast?_cons_of_ne_nil hr] at h3
    rw [List.drop_one, List.tail_cons, h3] at h2
    cases h2
theorem cut_yes {l : List UInt8} (h : (l.head? == some 40) = true) (h2 : ((l.drop 1).getLast? == some 41) = true) : innerL l = some ((l.drop 1).dropLast) := by
  unfold innerL
  rw [if_pos]
  have h1 : l.head? = some 40 := by simpa using h
  have h3 : (l.drop 1).getLast? = some 41 := by simpa using h2
  match l, h1 with
  | c :: r, h1 =>
    rw [List.drop_one, List.tail_cons] at h3
    have hr : r ≠ [] := by intro e; subst e; simp at h3
    refine ⟨?_, h1, by rw [List.getLast?_cons_of_ne_nil hr]; exact h3⟩
    cases r with
    | nil => exact absurd rfl hr
    | cons a b => simp
/-- What lies where while the words are read: two results, the flags. -/
structure FP (w : World) (f : Nat) (W : World) : Prop where
  r0 : W.heap[w.heap.size]? = some (.cells #[.int .i64 0] 3 (0, 0))
  r1 : W.heap[w.heap.size + 1]? = some (.cells #[.bool false] 4 (0, 0))
  fl : W.heap[w.heap.size + 1 + 1]? = some (.cells #[.int .i64 (f : Int)] 3 (0, 0))
  bel : Below w.heap.size w W
theorem FP.kept {w W W' : World} {f : Nat} (h : FP w f W) (h1 : W'.os = W.os ∧ W'.tape = W.tape ∧ W'.output = W.output) (h2 : W.heap.size ≤ W'.heap.size) (hk : ∀ j, j < w.heap.size + 3 → W'.heap[j]? = W.heap[j]?) : FP w f W' :=
  ⟨(hk _ (by omega)).trans h.r0, (hk _ (by omega)).trans h.r1, (hk _ (by omega)).trans h.fl,
    ⟨h1.1.trans h.bel.os, h1.2.1.trans h.bel.tape, h1.2.2.trans h.bel.output, Nat.le_trans h.bel.size h2, fun j hj => (hk j (by omega)).trans (h.bel.block j hj)⟩⟩
theorem FP.put {w W : World} {f l : Nat} {o : Obj} (h : FP w f W) (hl : w.heap.size + 3 ≤ l) : FP w f (W.putObj l o) :=
  h.kept ⟨rfl, rfl, rfl⟩ (by simp) fun j hj => World.putObj_heap_other (by omega)
theorem FP.alloc {w W : World} {f : Nat} {o : Obj} (h : FP w f W) : FP w f (W.alloc o) :=
  h.kept ⟨rfl, rfl, rfl⟩ (by simp) fun j hj => Below.heap_alloc _ _ _ (by have := lt_of_block h.fl; omega)
theorem FP.set {w W : World} {f b : Nat} {v : Value} (h : FP w f W) (hb : w.heap.size + 3 ≤ b) : FP w f (W.setCell ⟨b, 0, none⟩ v) :=
  h.kept ⟨rfl, rfl, rfl⟩ (by simp [World.setCell]) fun j hj => Below.heap_setCell _ _ _ _ (by show j ≠ b; omega)
/-- The words so far, all of them flags' names, each once. -/
def Good (w : World) (pre : List ByteArray) (W : World) : Prop := ∃ f, foldW 0 (lists pre) = some f ∧ FP w f W ∧ Names W
/-- A word that is none, or comes again: the two results are laid. -/
def Fail (w : World) (pre : List ByteArray) (W : World) : Prop := foldW 0 (lists pre) = none ∧ ∃ f, FP w f W
theorem Names.set {W : World} (h : Names W) {b : Nat} {x v : Value} {t : TypeId} (hb : W.heap[b]? = some (.cells #[x] t (0, 0))) : Names (W.setCell ⟨b, 0, none⟩ v) := by
  obtain ⟨t', fz, h⟩ := h
  refine ⟨t', fz, (Below.heap_setCell _ _ _ _ ?_).trans h⟩
  show _ ≠ b
  intro e
  rw [e, hb] at h
  simp [namesCells] at h
theorem Names.at {W W' : World} (h : Names W) (hk : W'.heap[0]? = W.heap[0]?) : Names W' := by
  obtain ⟨t', fz, h⟩ := h
  exact ⟨t', fz, hk.trans h⟩
theorem Names.lt {W : World} (h : Names W) : 0 < W.heap.size := by
  obtain ⟨t', fz, h⟩ := h
  exact lt_of_block h
theorem FP.store {w W : World} {f g : Nat} (h : FP w f W) : FP w g (W.setCell ⟨w.heap.size + 1 + 1, 0, none⟩ (.int .i64 (g : Int))) :=
  ⟨(Below.heap_setCell _ _ _ _ (by show w.heap.size ≠ w.heap.size + 1 + 1; omega)).trans h.r0, (Below.heap_setCell _ _ _ _ (by show w.heap.size + 1 ≠ w.heap.size + 1 + 1; omega)).trans h.r1, box_put h.fl, h.bel.setCell (by show w.heap.size ≤ w.heap.size + 1 + 1; omega) _⟩
theorem FP.zero {w W : World} {f : Nat} (h : FP w f W) : FP w f ((W.setCell ⟨w.heap.size, 0, none⟩ (.int .i64 0)).setCell ⟨w.heap.size + 1, 0, none⟩ (.bool false)) :=
  ⟨(Below.heap_setCell _ _ _ _ (by show w.heap.size ≠ w.heap.size + 1; omega)).trans (box_put h.r0), box_put ((Below.heap_setCell _ _ _ _ (by show w.heap.size + 1 ≠ w.heap.size; omega)).trans h.r1),
    (Below.heap_setCell _ _ _ _ (by show w.heap.size + 1 + 1 ≠ w.heap.size + 1; omega)).trans ((Below.heap_setCell _ _ _ _ (by show w.heap.size + 1 + 1 ≠ w.heap.size; omega)).trans h.fl),
    (h.bel.setCell (by show w.heap.size ≤ w.heap.size; omega) _).setCell (by show w.heap.size ≤ w.heap.size + 1; omega) _⟩
theorem alloc_at (w : World) (o : Obj) {n : Nat} (h : w.heap.size = n) : (w.alloc o).heap[n]? = some o := by subst h; exact heap_alloc_new w o
theorem old_at {w : World} {o o' : Obj} {n : Nat} (h : w.heap[n]? = some o) : (w.alloc o').heap[n]? = some o := (Below.heap_alloc _ _ _ (lt_of_block h)).trans h
theorem fp_start (w : World) (t : ByteArray) (W : World) (hW : W = ((((((w.alloc (.cells #[.int .i64 0] 3)).alloc (.cells #[.bool false] 4)).alloc (.cells #[.int .i64 0] 3)).alloc (.cells #[.string t] 9)).alloc (.cells #[.string ⟨#[32]⟩] 9)).alloc (.cells #[.int .i64 0] 3))) :
    FP w 0 W ∧ It (w.heap.size + 1 + 1 + 1) (w.heap.size + 1 + 1 + 1 + 1) (w.heap.size + 1 + 1 + 1 + 1 + 1) t W ∧ W.heap.size = w.heap.size + 1 + 1 + 1 + 1 + 1 + 1 := by
  subst hW
  refine ⟨⟨?_, ?_, ?_, ?_⟩, ⟨?_, ?_, ?_⟩, by simp⟩
  · exact old_at (old_at (old_at (old_at (old_at (alloc_at _ _ rfl)))))
  · exact old_at (old_at (old_at (old_at (alloc_at _ _ (by simp)))))
  · exact old_at (old_at (old_at (alloc_at _ _ (by simp))))
  · exact (((((((Below.refl _ _).alloc (Nat.le_refl _) _).alloc (by simp) _).alloc (by simp; omega) _).alloc (by simp; omega) _).alloc (by simp; omega) _).alloc (by simp; omega) _)
  · exact old_at (old_at (alloc_at _ _ (by simp)))
  · exact old_at (alloc_at _ _ (by simp))
  · exact alloc_at _ _ (by simp)
theorem flagsParse_bad (s : ByteArray) (hs : s.size ≤ 1000000000) (w : World) (h : innerL s.data.toList = none) :
    Calls Tryd.prog 9 #[.string s] w fun e w' => e = .returned (.tuple #[.int .i64 0, .bool false]) ∧ Below w.heap.size w w' := by
  rcases hd1 : (s.data.toList.head? == some 40) with _ | _
  · have HCP := Lib.hid (cutPrefix_one s 40 false ((w.alloc (.cells #[.int .i64 0] 3)).alloc (.cells #[.bool false] 4)) hs hd1)
    clear h hd1
    go_enter Tryd.func9, Tryd.ntmps9
    go_wp2_with fail
    refine HCP.out.mono ?_
    rintro e w' ⟨⟨t, rfl, ht⟩, rfl⟩
    have hts : t.size ≤ 1000000000 := by rw [size_list, show t.data.toList = s.data.toList from ht, ← size_list]; exact hs
    rcases hd2 : (t.data.toList.getLast? == some 41) with _ | _
    · have HCS := Lib.hid (cutSuffix_one t 41 false ((w.alloc (.cells #[.int .i64 0] 3)).alloc (.cells #[.bool false] 4)) hts hd2)
      clear ht hd2 HCP
      go_wp2_with fail
      refine HCS.out.mono ?_
      rintro e w' ⟨⟨t2, rfl, ht2⟩, rfl⟩
      clear ht2 HCS
      go_wp2_with fail
      refine bodyPost_ret (v := .tuple #[.int .i64 0, .bool false]) (by simp [results, Tryd.results9, go_sem]) rfl ⟨rfl, ?_⟩
      first
      | exact ((((Below.refl _ _).alloc (Nat.le_refl _) _).alloc (by simp) _).setCell (by show w.heap.size ≤ w.heap.size; omega) _).setCell (by show w.heap.size ≤ w.heap.size + 1; omega) _
      | exact ((Below.refl _ _).alloc (Nat.le_refl _) _).alloc (by simp) _
    · have HCS := Lib.hid (cutSuffix_one t 41 true ((w.alloc (.cells #[.int .i64 0] 3)).alloc (.cells #[.bool false] 4)) hts hd2)
      clear ht hd2 HCP
      go_wp2_with fail
      refine HCS.out.mono ?_
      rintro e w' ⟨⟨t2, rfl, ht2⟩, rfl⟩
      clear ht2 HCS
      go_wp2_with fail
      refine bodyPost_ret (v := .tuple #[.int .i64 0, .bool false]) (by simp [results, Tryd.results9, go_sem]) rfl ⟨rfl, ?_⟩
      first
      | exact ((((Below.refl _ _).alloc (Nat.le_refl _) _).alloc (by simp) _).setCell (by show w.heap.size ≤ w.heap.size; omega) _).setCell (by show w.heap.size ≤ w.heap.size + 1; omega) _
      | exact ((Below.refl _ _).alloc (Nat.le_refl _) _).alloc (by simp) _
  · have hd2 : ((s.data.toList.drop 1).getLast? == some 41) = false := by
      rcases hd2 : ((s.data.toList.drop 1).getLast? == some 41) with _ | _
      · rfl
      · rw [cut_yes hd1 hd2] at h; cases h
    have HCP := Lib.hid (cutPrefix_one s 40 true ((w.alloc (.cells #[.int .i64 0] 3)).alloc (.cells #[.bool false] 4)) hs hd1)
    have HD2 := Lib.hid hd2
    clear h hd1 hd2
    go_enter Tryd.func9, Tryd.ntmps9
    go_wp2_with fail
    refine HCP.out.mono ?_
    rintro e w' ⟨⟨t, rfl, ht⟩, rfl⟩
    have htl : t.data.toList = s.data.toList.drop 1 := ht
    have HCS := Lib.hid (cutSuffix_one t 41 false ((w.alloc (.cells #[.int .i64 0] 3)).alloc (.cells #[.bool false] 4)) (by rw [size_list, htl, List.length_drop, ← size_list]; omega) (by rw [htl]; exact HD2.out))
    clear ht htl HCP HD2
    go_wp2_with fail
    refine HCS.out.mono ?_
    rintro e w' ⟨⟨t2, rfl, ht2⟩, rfl⟩
    clear ht2 HCS
    go_wp2_with fail
    refine bodyPost_ret (v := .tuple #[.int .i64 0, .bool false]) (by simp [results, Tryd.results9, go_sem]) rfl ⟨rfl, ?_⟩
    first
    | exact ((((Below.refl _ _).alloc (Nat.le_refl _) _).alloc (by simp) _).setCell (by show w.heap.size ≤ w.heap.size; omega) _).setCell (by show w.heap.size ≤ w.heap.size + 1; omega) _
    | exact ((Below.refl _ _).alloc (Nat.le_refl _) _).alloc (by simp) _
theorem flagsParse_nil (s : ByteArray) (hs : s.size ≤ 1000000000) (w : World) (h : innerL s.data.toList = some []) :
    Calls Tryd.prog 9 #[.string s] w fun e w' => e = .returned (.tuple #[.int .i64 0, .bool true]) ∧ Below w.heap.size w w' := by
  have hd1 : (s.data.toList.head? == some 40) = true := by
    rcases hd : (s.data.toList.head? == some 40) with _ | _
    · rw [cut_no1 hd] at h; cases h
    · rfl
  have hd2 : ((s.data.toList.drop 1).getLast? == some 41) = true := by
    rcases hd : ((s.data.toList.drop 1).getLast? == some 41) with _ | _
    · rw [cut_no2 hd1 hd] at h; cases h
    · rfl
  have hii : (s.data.toList.drop 1).dropLast = [] := by have := cut_yes hd1 hd2; rw [h] at this; exact (Option.some.inj this).symm
  have HCP := Lib.hid (cutPrefix_one s 40 true ((w.alloc (.cells #[.int .i64 0] 3)).alloc (.cells #[.bool false] 4)) hs hd1)
  have HD2 := Lib.hid hd2; have HII := Lib.hid hii
  clear h hd1 hd2 hii
  go_enter Tryd.func9, Tryd.ntmps9
  go_wp2_with fail
  refine HCP.out.mono ?_
  rintro e w' ⟨⟨t, rfl, ht⟩, rfl⟩
  have htl : t.data.toList = s.data.toList.drop 1 := ht
  have HCS := Lib.hid (cutSuffix_one t 41 true ((w.alloc (.cells #[.int .i64 0] 3)).alloc (.cells #[.bool false] 4)) (by rw [size_list, htl, List.length_drop, ← size_list]; omega) (by rw [htl]; exact HD2.out))
  have HTL := Lib.hid htl
  clear ht htl HCP HD2
  go_wp2_with fail
  refine HCS.out.mono ?_
  rintro e w' ⟨⟨t2, rfl, ht2⟩, rfl⟩
  have hne : t2.toList = [] := by have : t2.data.toList = t.data.toList.dropLast := ht2; rw [ByteArray.toList_eq, this, HTL.out]; exact HII.out
  have hne2 : t2.toList.isEmpty = true := by rw [hne]; rfl
  clear ht2 HCS
  go_wp2_with fail
  refine bodyPost_ret (v := .tuple #[.int .i64 0, .bool true]) (by simp [results, Tryd.results9, go_sem, *]) rfl ⟨rfl, ?_⟩
  first
  | exact ((((Below.refl _ _).alloc (Nat.le_refl _) _).alloc (by simp) _).setCell (by show w.heap.size ≤ w.heap.size; omega) _).setCell (by show w.heap.size ≤ w.heap.size + 1; omega) _
  | exact ((Below.refl _ _).alloc (Nat.le_refl _) _).alloc (by simp) _
set_option maxRecDepth 100000 in
set_option maxHeartbeats 2000000 in
theorem flagsParse_some (s : ByteArray) (hs : s.size ≤ 1000000000) (i : List UInt8) (w : World) (hN : Names w) (h : innerL s.data.toList = some i) (hi : i ≠ []) :
    Calls Tryd.prog 9 #[.string s] w fun e w' => e = .returned (.tuple #[.int .i64 ((parseL s.data.toList).1 : Nat), .bool (parseL s.data.toList).2]) ∧ Below w.heap.size w w' := by
  have hd1 : (s.data.toList.head? == some 40) = true := by
    rcases hd : (s.data.toList.head? == some 40) with _ | _
    · rw [cut_no1 hd] at h; cases h
    · rfl
  have hd2 : ((s.data.toList.drop 1).getLast? == some 41) = true := by
    rcases hd : ((s.data.toList.drop 1).getLast? == some 41) with _ | _
    · rw [cut_no2 hd1 hd] at h; cases h
    · rfl
  have hii : (s.data.toList.drop 1).dropLast = i := by have := cut_yes hd1 hd2; rw [h] at this; exact (Option.some.inj this).symm
  have hpr := parse_some h hi
  have hcp := cutPrefix_one s 40 true (((w.alloc (.cells #[.int .i64 0] 3)).alloc (.cells #[.bool false] 4))) hs hd1
  have HCP := Lib.hid hcp; have HPR := Lib.hid hpr; have HII := Lib.hid hii; have HD2 := Lib.hid hd2; have HI := Lib.hid hi
  clear hd1 hd2 hii hpr hcp h hi
  have f17 : Fence.wide.fn 17 := trivial
  have f18 : Fence.wide.fn 18 := trivial
  have f19 : Fence.wide.fn 19 := trivial
  have f20 : Fence.wide.fn 20 := trivial
  have n1 : 1 ≤ 5 := by omega
  refine (callsIn_wide (n := 5)).1 (callsIn_of_wp_marks Tryd.func9 rfl trivial ?_ rfl)
  simp only [Tryd.ntmps9, List.size_toArray, List.length_cons, List.length_nil, Nat.reduceAdd, Nat.reduceSub, Array.replicate_succ, Array.replicate_zero, List.push_toArray, List.append_toArray, List.nil_append, List.cons_append]
  gi_wp2_with (gi_at_call 17; refine (callsIn_wide.2 HCP.out).mono ?_; rintro e w' ⟨⟨t, rfl, ht⟩, rfl⟩)
  have htl : t.data.toList = s.data.toList.drop 1 := ht
  have hcs := cutSuffix_one t 41 true ((w.alloc (.cells #[.int .i64 0] 3)).alloc (.cells #[.bool false] 4)) (by rw [size_list, htl, List.length_drop, ← size_list]; omega) (by rw [htl]; exact HD2.out)
  refine (callsIn_wide.2 hcs).mono ?_
  rintro e w' ⟨⟨t2, rfl, ht2⟩, rfl⟩
  have ht2l : t2.data.toList = i := by have : t2.data.toList = t.data.toList.dropLast := ht2; rw [this, htl]; exact HII.out
  have hne : ¬ t2.toList = [] := by rw [ByteArray.toList_eq, ht2l]; exact HI.out
  have hne2 : t2.toList.isEmpty = false := isEmpty_no hne
  have hs2 : t2.size ≤ 1000000000 := by rw [size_list, ht2l, ← HII.out, List.length_dropLast, List.length_drop, ← size_list]; omega
  have HT2 := Lib.hid ht2l
  have HSS := Lib.hid (SplitSeq_any t2 ⟨#[32]⟩ (((w.alloc (.cells #[.int .i64 0] 3)).alloc (.cells #[.bool false] 4)).alloc (.cells #[.int .i64 0] 3)))
  clear ht htl hcs ht2 ht2l
  gi_wp2_with (gi_at_call 19; refine (callsIn_wide.2 HSS.out).mono ?_; rintro e w' ⟨rfl, rfl⟩)
  obtain ⟨ws, hws⟩ : ∃ ws, ws = ((((((w.alloc (.cells #[.int .i64 0] 3)).alloc (.cells #[.bool false] 4)).alloc (.cells #[.int .i64 0] 3)).alloc (.cells #[.string t2] 9)).alloc (.cells #[.string ⟨#[32]⟩] 9)).alloc (.cells #[.int .i64 0] 3)) := ⟨_, rfl⟩
  obtain ⟨hfp, hit, hsz⟩ := fp_start w t2 ws hws
  have hnw : Names ws := hN.below hfp.bel
  rw [← hws]
  have h0 : Good w [] ws := ⟨0, rfl, hfp, hnw⟩
  have hlt := hN.lt
  clear hws HSS HCP HD2 f17 f18 f19
  refine range_box (gf := 37) (lb := #[.pointer (some ⟨w.heap.size + 1 + 1 + 1 + 1, 0, none⟩), .pointer (some ⟨w.heap.size + 1 + 1 + 1, 0, none⟩), .pointer (some ⟨w.heap.size + 1 + 1 + 1 + 1 + 1, 0, none⟩)]) rfl (enters_of Tryd.func37 (by kernel_rfl) rfl)
    (encs := fun x : ByteArray => #[.string x]) (fun _ => rfl) (Bx := (· = w.heap.size + 1 + 1 + 1)) (fun b hb => by subst hb; omega) (split_iter 4 _ _ _ (by omega) t2 hs2 ws hit (by omega) (by omega))
    (fun h k => h.trans k) (fun W l o hl => ⟨World.putObj_heap_other (by omega), World.putObj_heap_other (by omega), World.putObj_heap_other (by omega)⟩)
    (Good w) (Fail w) ?hI ?hIx ?hIa ?hIs h0 ?a1 ?assign ?body ?done ?stop
  case assign =>
    intro l x W K hK
    gi_wp2
    exact hK
  case hI =>
    rintro pre W l o hl ⟨f, hf, hp, hn⟩
    exact ⟨f, hf, hp.put (by omega), hn.at (World.putObj_heap_other (by omega))⟩
  case hIx =>
    rintro pre W l o hl ⟨hf, f, hp⟩
    exact ⟨hf, f, hp.put (by omega)⟩
  case hIa =>
    rintro pre W o hl ⟨f, hf, hp, hn⟩
    exact ⟨f, hf, hp.alloc, hn.below ((Below.refl _ _).alloc (Nat.le_refl _) _)⟩
  case hIs =>
    rintro pre W b v rfl ⟨f, hf, hp, hn⟩
    exact ⟨f, hf, hp.set (by omega), hn.at (Below.heap_setCell _ _ _ _ (by show _ ≠ w.heap.size + 1 + 1 + 1; omega))⟩
  case body =>
    rintro l pre x W ⟨f, hf, hp, hn⟩
    obtain ⟨r0, r0f⟩ := box_one hp.r0
    obtain ⟨r1, r1f⟩ := box_one hp.r1
    obtain ⟨fl, flf⟩ := box_one hp.fl
    have ff : (Fence.wide.inRound l).fn 20 := trivial
    have n3 : 1 ≤ 5 - 1 - 1 := by omega
    have hc := flagOf_any x W hn
    have hflt := foldW_lt (by omega) hf
    have hglt := flagL_lt x.data.toList
    have hsn : foldW 0 (lists (pre ++ [x])) = addW f x.data.toList := by rw [lists_snoc, foldW_snoc, hf]; rfl
    obtain ⟨g, hg⟩ : ∃ g, flagL x.data.toList = g := ⟨_, rfl⟩
    rw [hg] at hc hglt
    have hbad : addW f x.data.toList = none → ∀ (A : Act) (W' : World), W' = ((W.setCell ⟨w.heap.size, 0, none⟩ (.int .i64 0)).setCell ⟨w.heap.size + 1, 0, none⟩ (.bool false)) → LeftBy ws.heap.size (Keep3 (w.heap.size + 1 + 1 + 1) (w.heap.size + 1 + 1 + 1 + 1) (w.heap.size + 1 + 1 + 1 + 1 + 1)) (Good w) (Fail w) (pre ++ [x]) W .ret A W' := by
      rintro hn0 A W' rfl
      refine ⟨fun k o hk hko _ => ?_, .inr ⟨rfl, by rw [hsn, hn0], f, hp.zero⟩⟩
      exact (Below.heap_setCell _ _ _ _ (by show k ≠ w.heap.size + 1; omega)).trans ((Below.heap_setCell _ _ _ _ (by show k ≠ w.heap.size; omega)).trans hko)
    have hgood : ∀ y, addW f x.data.toList = some y → ∀ (A : Act) (W' : World), W' = W.setCell ⟨w.heap.size + 1 + 1, 0, none⟩ (.int .i64 (y : Int)) → LeftBy ws.heap.size (Keep3 (w.heap.size + 1 + 1 + 1) (w.heap.size + 1 + 1 + 1 + 1) (w.heap.size + 1 + 1 + 1 + 1 + 1)) (Good w) (Fail w) (pre ++ [x]) W .normal A W' := by
      rintro y hy A W' rfl
      refine ⟨fun k o hk hko _ => (Below.heap_setCell _ _ _ _ (by show k ≠ w.heap.size + 1 + 1; omega)).trans hko, .inl ⟨rfl, ⟨?_, ?_, ?_⟩, y, by rw [hsn, hy], hp.store, hn.set hp.fl⟩⟩
      · exact Below.heap_setCell _ _ _ _ (by show _ ≠ w.heap.size + 1 + 1; omega)
      · exact Below.heap_setCell _ _ _ _ (by show _ ≠ w.heap.size + 1 + 1; omega)
      · exact Below.heap_setCell _ _ _ _ (by show _ ≠ w.heap.size + 1 + 1; omega)
    have HBAD := Lib.hid hbad; have HGOOD := Lib.hid hgood
    have hadd : addW f x.data.toList = if g = 0 ∨ f &&& g ≠ 0 then none else some (f ||| g) := by unfold addW; rw [hg]
    have HADD := Lib.hid hadd
    clear hbad hgood hadd hg hsn hp hn hf
    by_cases hg0 : g = 0
    · subst hg0
      have hno : addW f x.data.toList = none := by rw [HADD.out, if_pos (.inl rfl)]
      have HNO := Lib.hid hno
      have HC := Lib.hid hc
      clear hc hno
      gi_wp2_with (gi_at_call 20; refine (CallsIn.inRound l (callsIn_wide.2 HC.out)).mono ?_; rintro e w' ⟨rfl, rfl⟩)
      exact HBAD.out HNO.out _ _ rfl
    · have hg1 : ((g : Int) == 0) = false := beq_eq_false_iff_ne.2 (by omega)
      have xa := i64_and f hflt g hglt
      have HC := Lib.hid hc
      clear hc
      by_cases h2 : f &&& g = 0
      · have hyes : addW f x.data.toList = some (f ||| g) := by rw [HADD.out, if_neg (by rintro (h | h); exact hg0 h; exact h h2)]
        have xo := i64_or f hflt g hglt
        rw [h2] at xa
        have HYES := Lib.hid hyes
        clear hyes h2 hg0
        gi_wp2_with (gi_at_call 20; refine (CallsIn.inRound l (callsIn_wide.2 HC.out)).mono ?_; rintro e w' ⟨rfl, rfl⟩)
        exact HGOOD.out _ HYES.out _ _ rfl
      · have hno : addW f x.data.toList = none := by rw [HADD.out, if_pos (.inr h2)]
        have hb : (((f &&& g : Nat) : Int) != 0) = true := by simp; omega
        have HNO := Lib.hid hno
        clear hno h2 hg0
        gi_wp2_with (gi_at_call 20; refine (CallsIn.inRound l (callsIn_wide.2 HC.out)).mono ?_; rintro e w' ⟨rfl, rfl⟩)
        exact HBAD.out HNO.out _ _ rfl
  case done =>
    rintro D xs W hD hS ⟨f, hf, hp, hn⟩ hK
    have hpf : parseL s.data.toList = (f, true) := by
      have h1 : lists xs = wordsL i := by rw [← HT2.out]; exact hS
      rw [h1] at hf
      rw [HPR.out, hf]
    obtain ⟨r0, r0f⟩ := box_one hp.r0
    obtain ⟨r1, r1f⟩ := box_one hp.r1
    obtain ⟨fl, flf⟩ := box_one hp.fl
    have e0 : ((W.setCell ⟨w.heap.size, 0, none⟩ (.int .i64 (f : Int))).setCell ⟨w.heap.size + 1, 0, none⟩ (.bool true)).heap[w.heap.size]? = some (.cells #[.int .i64 (f : Int)] 3 (0, 0)) :=
      (Below.heap_setCell _ _ _ _ (by show w.heap.size ≠ w.heap.size + 1; omega)).trans (box_put hp.r0)
    have e1 : ((W.setCell ⟨w.heap.size, 0, none⟩ (.int .i64 (f : Int))).setCell ⟨w.heap.size + 1, 0, none⟩ (.bool true)).heap[w.heap.size + 1]? = some (.cells #[.bool true] 4 (0, 0)) :=
      box_put ((Below.heap_setCell _ _ _ _ (by show w.heap.size + 1 ≠ w.heap.size; omega)).trans hp.r1)
    have eD : ((W.setCell ⟨w.heap.size, 0, none⟩ (.int .i64 (f : Int))).setCell ⟨w.heap.size + 1, 0, none⟩ (.bool true)).heap[D]? = some (.deferred (some [])) :=
      (Below.heap_setCell _ _ _ _ (by show D ≠ w.heap.size + 1; omega)).trans ((Below.heap_setCell _ _ _ _ (by show D ≠ w.heap.size; omega)).trans hK)
    have eb : Below w.heap.size w (((W.setCell ⟨w.heap.size, 0, none⟩ (.int .i64 (f : Int))).setCell ⟨w.heap.size + 1, 0, none⟩ (.bool true)).putObj D (.deferred none)) := by
      have b1 := (hp.bel.setCell (p := ⟨w.heap.size, 0, none⟩) (by show w.heap.size ≤ w.heap.size; omega) (.int .i64 (f : Int))).setCell (p := ⟨w.heap.size + 1, 0, none⟩) (by show w.heap.size ≤ w.heap.size + 1; omega) (.bool true)
      exact b1.trans ((Below.refl _ _).grown (grownBy_putObj' _ D (.deferred none)) (by exact b1.size) (fun k e => by cases e; omega))
    have HX := Lib.hid hpf; have E0 := Lib.hid e0; have E1 := Lib.hid e1; have ED := Lib.hid eD; have EB := Lib.hid eb
    clear hpf e0 e1 eD eb hf hS hp hn hK
    gi_wp2
    refine ⟨by simp, .inl ⟨_, _, rfl, run_takeDeferred ED.out, ?_⟩⟩
    obtain ⟨x0, _⟩ := box_one ((World.putObj_heap_other (o := .deferred none) (show w.heap.size ≠ D by omega)).trans E0.out)
    obtain ⟨x1, _⟩ := box_one ((World.putObj_heap_other (o := .deferred none) (show w.heap.size + 1 ≠ D by omega)).trans E1.out)
    refine ⟨.tuple #[.int .i64 (f : Int), .bool true], ?_, ?_, EB.out⟩
    · simp [results, Tryd.results9, go_sem, x0, x1]
    · rw [HX.out]
  case stop =>
    rintro D pre W hD ⟨r, hS⟩ ⟨hf, f, hp⟩ hK
    have hpf : parseL s.data.toList = (0, false) := by
      have h1 : wordsL i = lists pre ++ r := by rw [← HT2.out]; exact hS
      rw [HPR.out, h1, foldW_app, hf]
      rfl
    have eb : Below w.heap.size w (W.putObj D (.deferred none)) := hp.bel.trans ((Below.refl _ _).grown (grownBy_putObj' _ D (.deferred none)) (by exact hp.bel.size) (fun k e => by cases e; omega))
    obtain ⟨x0, _⟩ := box_one ((World.putObj_heap_other (o := .deferred none) (show w.heap.size ≠ D by omega)).trans hp.r0)
    obtain ⟨x1, _⟩ := box_one ((World.putObj_heap_other (o := .deferred none) (show w.heap.size + 1 ≠ D by omega)).trans hp.r1)
    have HX := Lib.hid hpf; have EB := Lib.hid eb
    clear hpf eb hf hS hp
    gi_wp2
    refine ⟨by simp, .inl ⟨_, _, rfl, run_takeDeferred hK, ?_⟩⟩
    refine ⟨.tuple #[.int .i64 0, .bool false], ?_, ?_, EB.out⟩
    · simp [results, Tryd.results9, go_sem, x0, x1]
    · rw [HX.out]; rfl
/-- The program reads a text of flags. -/
theorem implFlagsParse_any (s : ByteArray) (hs : s.size ≤ 1000000000) (w : World) (hN : Names w) :
    Calls Tryd.prog 9 #[.string s] w fun e w' => e = .returned (.tuple #[.int .i64 ((parseL s.data.toList).1 : Nat), .bool (parseL s.data.toList).2]) ∧ Below w.heap.size w w' := by
  rcases h : innerL s.data.toList with _ | i
  · rw [parse_none h]; exact flagsParse_bad s hs w h
  · by_cases hi : i = []
    · subst hi; rw [parse_nil h]; exact flagsParse_nil s hs w h
    · exact flagsParse_some s hs i w hN h hi
end Go.Proofs.YtbmpbkidjcaogaaDoor

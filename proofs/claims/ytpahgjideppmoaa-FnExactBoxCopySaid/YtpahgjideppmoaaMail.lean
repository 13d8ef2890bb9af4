/- MESSAGES IN MEMORY: a row of messages that the call owns; what a slice that can be read gives an append. -/
import Derived.Test.YtpahgjideppmoaaBox
import Derived.Laws.AppendOwnNone
namespace Go.Proofs.Ytpahgjideppmoaa
open Go.RowKit
set_option linter.unusedVariables false

def mcells (m : M) : List Value := [.int .i64 m.uid, .int .i64 m.flags, .string m.text]
def rowOf : List M → List Value
  | [] => []
  | m :: r => mcells m ++ rowOf r
theorem rowOf_length (l : List M) : (rowOf l).length = l.length * 3 := by
  induction l with
  | nil => rfl
  | cons m r ih => simp only [rowOf, List.length_append, ih, List.length_cons, mcells]; simp; omega
theorem rowOf_append (l r : List M) : rowOf (l ++ r) = rowOf l ++ rowOf r := by
  induction l with
  | nil => rfl
  | cons m l ih => simp [rowOf, ih]
theorem rowOf_at : ∀ (l : List M) (i : Nat) (m : M), l[i]? = some m → (rowOf l)[i * 3]? = some (.int .i64 m.uid) ∧ (rowOf l)[i * 3 + 1]? = some (.int .i64 m.flags) ∧ (rowOf l)[i * 3 + 2]? = some (.string m.text)
  | [], i, m, h => by simp at h
  | a :: l, 0, m, h => by
    simp only [List.getElem?_cons_zero, Option.some.injEq] at h
    subst h
    exact ⟨rfl, rfl, rfl⟩
  | a :: l, i + 1, m, h => by
    have h' : l[i]? = some m := by simpa using h
    obtain ⟨h0, h1, h2⟩ := rowOf_at l i m h'
    have e : (i + 1) * 3 = i * 3 + 3 := by omega
    have k : ∀ j, (rowOf (a :: l))[j + 3]? = (rowOf l)[j]? := fun j => by
      show (mcells a ++ rowOf l)[j + 3]? = _
      rw [List.getElem?_append_right (by simp [mcells])]
      simp [mcells]
    rw [e]
    exact ⟨by rw [k]; exact h0, by rw [show i * 3 + 3 + 1 = i * 3 + 1 + 3 from by omega, k]; exact h1, by rw [show i * 3 + 3 + 2 = i * 3 + 2 + 3 from by omega, k]; exact h2⟩
theorem rowOf_one (l : List M) : ∀ u ∈ rowOf l, u.oneCell' = true := by
  induction l with
  | nil => simp [rowOf]
  | cons m r ih =>
    intro u hu
    simp only [rowOf, List.mem_append, mcells, List.mem_cons, List.not_mem_nil, or_false] at hu
    rcases hu with (rfl | rfl | rfl) | hu
    · rfl
    · rfl
    · rfl
    · exact ih u hu
/-- Every cell of a row is one of some message's three. -/
theorem rowOf_find : ∀ (l : List M) (j : Nat) (u : Value), (rowOf l)[j]? = some u → ∃ i m, l[i]? = some m ∧ ((j = i * 3 ∧ u = .int .i64 m.uid) ∨ (j = i * 3 + 1 ∧ u = .int .i64 m.flags) ∨ (j = i * 3 + 2 ∧ u = .string m.text))
  | [], j, u, h => by simp [rowOf] at h
  | a :: l, j, u, h => by
    match j, h with
    | 0, h => exact ⟨0, a, rfl, .inl ⟨rfl, by simpa [rowOf, mcells] using h.symm⟩⟩
    | 1, h => exact ⟨0, a, rfl, .inr (.inl ⟨rfl, by simpa [rowOf, mcells] using h.symm⟩)⟩
    | 2, h => exact ⟨0, a, rfl, .inr (.inr ⟨rfl, by simpa [rowOf, mcells] using h.symm⟩)⟩
    | j + 3, h =>
      have k : (rowOf (a :: l))[j + 3]? = (rowOf l)[j]? := by
        show (mcells a ++ rowOf l)[j + 3]? = _
        rw [List.getElem?_append_right (by simp [mcells])]
        simp [mcells]
      rw [k] at h
      obtain ⟨i, m, hm, hc⟩ := rowOf_find l j u h
      refine ⟨i + 1, m, by simpa using hm, ?_⟩
      rcases hc with ⟨h1, h2⟩ | ⟨h1, h2⟩ | ⟨h1, h2⟩
      · exact .inl ⟨by omega, h2⟩
      · exact .inr (.inl ⟨by omega, h2⟩)
      · exact .inr (.inr ⟨by omega, h2⟩)
theorem add_at (b off j : Nat) : (⟨b, off, none⟩ : Addr).add j = ⟨b, off + j, none⟩ := by cases j <;> simp [Addr.add]
/-- The cells of a slice that can be read, as an append asks for them. -/
theorem news_of {w : World} {b off : Nat} {l : List M} (h : ∀ i m, l[i]? = some m → w.cell? ⟨b, off + i * 3, none⟩ = some (.int .i64 m.uid) ∧ w.cell? ⟨b, off + i * 3 + 1, none⟩ = some (.int .i64 m.flags) ∧ w.cell? ⟨b, off + i * 3 + 2, none⟩ = some (.string m.text)) :
    ∀ (j : Nat) u, (rowOf l)[j]? = some u → w.cell? ((⟨b, off, none⟩ : Addr).add j) = some u := by
  intro j u hu
  obtain ⟨i, m, hm, hc⟩ := rowOf_find l j u hu
  obtain ⟨h0, h1, h2⟩ := h i m hm
  rw [add_at]
  rcases hc with ⟨rfl, rfl⟩ | ⟨rfl, rfl⟩ | ⟨rfl, rfl⟩
  · exact h0
  · exact h1
  · exact h2

/-- A row of messages that the call owns, in a block from base on. -/
def Own (w : World) (base : Nat) (v : Value) (l : List M) : Prop := w.ownsRow base 47 3 v l.length (rowOf l)
theorem Own.mail {w : World} {base : Nat} {v : Value} {l : List M} (h : Own w base v l) (hl : l.length ≤ 4398046511104) : MailAt w v l := by
  have hc := fun g (hg : v.ownBlock = some g) => World.ownsRow.cells h hg
  rcases h.2 with ⟨rfl, h0⟩ | ⟨g, cap, cur, rfl, hb, hh, hn, hm, hs, ht⟩
  · exact ⟨none, l.length, 0, by rw [h0], rfl, by omega, ⟨hl, fun _ => rfl⟩, .inl h0⟩
  · refine ⟨some ⟨g, 0, none⟩, l.length, cap, rfl, rfl, hn, ⟨hl, fun e => by cases e⟩, .inr ⟨g, 0, rfl, lt_of_block hh, fun i m hi => ?_⟩⟩
    obtain ⟨h0, h1, h2⟩ := rowOf_at l i m hi
    have k0 := hc g rfl _ _ h0
    have k1 := hc g rfl _ _ h1
    have k2 := hc g rfl _ _ h2
    rw [add_at] at k0 k1 k2
    exact ⟨k0, k1, k2⟩
theorem Own.below {w w' : World} {base : Nat} {v : Value} {l : List M} (h : Own w base v l) (hb : Below w.heap.size w w') : Own w' base v l :=
  World.ownsRow.kept (row := none) h (grown_of_below' hb) (by cases v.ownBlock <;> simp)
  where grown_of_below' {w w' : World} (h : Below w.heap.size w w') : w.grownBy w' none := ⟨h.os, h.tape, h.output, h.size, fun k hk _ => h.block k hk⟩
theorem Own.more {w : World} {base base' : Nat} {v : Value} {l : List M} (h : Own w base v l) (hb : base' ≤ base) : Own w base' v l := by
  refine ⟨h.1, ?_⟩
  rcases h.2 with h2 | ⟨g, cap, cur, hv, hg, r⟩
  · exact .inl h2
  · exact .inr ⟨g, cap, cur, hv, by omega, r⟩
theorem Own.alloc {w : World} {base : Nat} {v : Value} {l : List M} (h : Own w base v l) (o : Obj) : Own (w.alloc o) base v l := World.ownsRow.alloc h o
theorem Own.setLow {w : World} {base : Nat} {v : Value} {l : List M} (h : Own w base v l) {a : Addr} (ha : a.block < base) (u : Value) : Own (w.setCell a u) base v l := ownsRow_setCell_below h ha u
theorem Own.setOther {w : World} {base : Nat} {v : Value} {l : List M} (h : Own w base v l) {a : Addr} (ha : v.ownBlock ≠ some a.block) (u : Value) : Own (w.setCell a u) base v l := ownsRow_setCell_other h ha u
theorem Try.infoMail : (Try.prog.info? 47).map (fun i => (i.zero, i.size, i.bytes)) = some (some (.agg #[.int .i64 0, .int .i64 0, .string ⟨#[]⟩]), 3, 32) := by kernel_rfl

set_option maxHeartbeats 400000 in
theorem l11Copy_any (b : B) (v : Value) (w : World) (hb : BoxAt w v b) :
    Calls Try.prog 20 #[v] w fun e w' => ∃ s, e = .returned (.agg #[.int .i64 b.next, s]) ∧ Own w' w.heap.size s b.mail ∧ s ≠ .slice none 0 0 ∧ Below w.heap.size w w' := by
  obtain ⟨s, rfl, a, L, cap, rfl, hL, hcap, ⟨hmax, hnil⟩, hmail⟩ := hb
  have HL := Lib.hid hL
  clear hL
  obtain ⟨i0, hi, hz0, hz1, hz2⟩ := info_parts Try.infoMail
  obtain ⟨A, hA⟩ : ∃ A : Obj, A = .cells #[.int .i64 b.next, .slice a L cap] 29 := ⟨_, rfl⟩
  obtain ⟨Z, hZ⟩ : ∃ Z : Obj, Z = .cells #[.int .i64 0, .slice none 0 0] 29 := ⟨_, rfl⟩
  have bel : Below w.heap.size w (((w.alloc A).alloc Z).alloc (.cells #[] 47)) := by go_grown
  have hown : (((w.alloc A).alloc Z).alloc (.cells #[] 47)).ownsRow (w.heap.size + 2) 47 3 (.slice (some ⟨w.heap.size + 1 + 1, 0, none⟩) 0 0) 0 [] := by
    have := World.ownsRow_made (base := w.heap.size + 2) (e := 47) (size := 3) ((w.alloc A).alloc Z) #[] 0 (by simp) (by unfold maxLen; omega) rfl
    simpa using this
  have h0 : (((w.alloc A).alloc Z).alloc (.cells #[] 47)).heap[w.heap.size]? = some A := by
    rw [Below.heap_alloc _ _ _ (by simp; omega), Below.heap_alloc _ _ _ (by simp)]; exact heap_alloc_new w _
  have h1 : (((w.alloc A).alloc Z).alloc (.cells #[] 47)).heap[w.heap.size + 1]? = some Z := by
    rw [Below.heap_alloc _ _ _ (by simp)]; have := heap_alloc_new (w.alloc A) Z; simpa using this
  have hsz : (((w.alloc A).alloc Z).alloc (.cells #[] 47)).heap.size = w.heap.size + 3 := by simp
  rw [hA, hZ] at bel hown h0 h1 hsz
  have HO := Lib.hid hown; have H0 := Lib.hid h0; have H1 := Lib.hid h1; have HS := Lib.hid hsz
  clear hown h0 h1 hsz hA hZ
  rcases ha : a with _ | ad
  · subst ha
    obtain rfl : cap = 0 := hnil rfl
    obtain rfl : L = 0 := by omega
    clear hmail
    go_enter Try.func20, Try.ntmps20
    go_wp2_with (at_builtin; refine wpList_append_own_none rfl _ _ 27 rfl (w.heap.size + 2) 47 i0 3 Try.underlying27 hi _ _ _ rfl HO.out rfl ?_)
    refine bodyPost_ret (v := .agg #[.int .i64 b.next, .slice (some ⟨w.heap.size + 1 + 1, 0, none⟩) 0 0]) (by simp [results, Try.results20, go_sem]) rfl ⟨_, rfl, ?_, by simp, ?_⟩
    · have hl : b.mail = [] := List.eq_nil_of_length_eq_zero HL.out
      rw [hl]
      unfold Own
      have := World.ownsRow_made (base := w.heap.size) (e := 47) (size := 3) ((w.alloc (.cells #[.int .i64 b.next, .slice (some ⟨w.heap.size + 1 + 1, 0, none⟩) 0 0] 29)).alloc (.cells #[.int .i64 b.next, .slice (some ⟨w.heap.size + 1 + 1, 0, none⟩) 0 0] 29)) #[] 0 (by simp; omega) (by unfold maxLen; omega) rfl
      simpa [rowOf] using this
    · go_grown
  · have hnews : ∀ (j : Nat) u, (rowOf b.mail)[j]? = some u → w.cell? (ad.add j) = some u := by
      rcases hmail with h | ⟨g, off, he, hg, hc⟩
      · have : b.mail = [] := List.eq_nil_of_length_eq_zero (by rw [HL.out]; exact h)
        rw [this]; intro j u hu; simp [rowOf] at hu
      · rw [ha] at he; cases he; exact news_of hc
    subst ha
    have hnews2 := fun j u hu => (bel.cell (World.block_lt_of_cell? _ _ (hnews j u hu))).trans (hnews j u hu)
    have HN := Lib.hid hnews2
    clear hnews hnews2 hmail bel
    go_enter Try.func20, Try.ntmps20
    go_wp2_with (at_builtin; refine wpList_append_own _ rfl _ _ 27 rfl (w.heap.size + 2) 47 i0 (.agg #[.int .i64 0, .int .i64 0, .string ⟨#[]⟩]) 3 32 Try.underlying27 hi hz0 hz1 hz2 rfl (by decide) _ _ _ rfl HO.out ad L cap (rowOf b.mail) rfl (by rw [rowOf_length, HL.out]) HN.out (rowOf_one _) ?c1 ?c2 ?c3 ?_)
    case c1 => unfold maxLen; omega
    case c2 => omega
    case c3 => simp
    intro v' w2 hown2 hgrow hiff
    have g0 : w2.heap[w.heap.size]? = some (.cells #[.int .i64 b.next, .slice (some ad) L cap] 29 (0, 0)) := (hgrow.block _ (by simp; omega) (by simp [Value.ownBlock]; omega)).trans H0.out
    have g1 : w2.heap[w.heap.size + 1]? = some (.cells #[.int .i64 0, .slice none 0 0] 29 (0, 0)) := (hgrow.block _ (by simp) (by simp [Value.ownBlock])).trans H1.out
    have bel2 : Below w.heap.size w w2 := ((by go_grown : Below w.heap.size w (((w.alloc (.cells #[.int .i64 b.next, .slice (some ad) L cap] 29)).alloc (.cells #[.int .i64 0, .slice none 0 0] 29)).alloc (.cells #[] 47)))).grown hgrow (by simp; omega) (fun k hk => by simp [Value.ownBlock] at hk; omega)
    have hown3 := hown2.2
    have HO2 := Lib.hid hown2
    obtain ⟨c0, c1, _, f1⟩ := two_cells g0
    obtain ⟨c2, c3, f2, f3⟩ := two_cells g1
    have hv : ∃ g cap', v' = .slice (some ⟨g, 0, none⟩) L cap' ∧ v' ≠ .slice none 0 0 := by
      rcases hown3 with ⟨h, _⟩ | ⟨g, cap', cur, h, _⟩
      · exact absurd h hiff
      · exact ⟨g, cap', h, hiff⟩
    obtain ⟨g, cap', rfl, hne⟩ := hv
    have HNE := Lib.hid hne
    clear hgrow hiff hown2 hown3 g0 g1 hne HO H0 H1 HS HN hnil
    go_wp2_with fail
    refine bodyPost_ret (v := .agg #[.int .i64 b.next, .slice (some ⟨g, 0, none⟩) L cap']) (by simp [results, Try.results20, go_sem, c2, c3]) rfl ⟨_, rfl, ?_, HNE.out, ?_⟩
    · refine Own.more (base := w.heap.size + 2) ?_ (by omega)
      unfold Own
      rw [HL.out]
      exact ownsRow_setCell_below (ownsRow_setCell_below (ownsRow_setCell_below HO2.out (by simp) _) (by simp) _) (by simp) _
    · exact ((bel2.setCell (by show w.heap.size ≤ w.heap.size; omega) _).setCell (by show w.heap.size ≤ w.heap.size + 1; omega) _).setCell (by show w.heap.size ≤ w.heap.size + 1; omega) _
/-! ### Rows of different elements never share a block. -/
theorem block_kept {w w' : World} {k base e size n : Nat} {v : Value} {xs : List Value} {cs : Array Value} {t : TypeId} {fz : Nat × Nat} (hh : w.heap[k]? = some (.cells cs t fz)) (ht : t ≠ e)
    (hown : w.ownsRow base e size v n xs) (hg : w.grownBy w' v.ownBlock) : w'.heap[k]? = some (.cells cs t fz) := by
  refine (hg.block k (lt_of_block hh) (fun h => ?_)).trans hh
  rcases hown.2 with ⟨rfl, _⟩ | ⟨g, cap, cur, rfl, _, hr, _⟩
  · simp [Value.ownBlock] at h
  · simp [Value.ownBlock] at h
    subst h
    rw [hh] at hr
    simp at hr
    exact ht hr.2.1
theorem row_kept {w w' : World} {b1 e1 s1 n1 b2 e2 s2 n2 : Nat} {v1 v2 : Value} {x1 x2 : List Value} (h1 : w.ownsRow b1 e1 s1 v1 n1 x1) (h2 : w.ownsRow b2 e2 s2 v2 n2 x2) (hne : e1 ≠ e2)
    (hg : w.grownBy w' v2.ownBlock) : w'.ownsRow b1 e1 s1 v1 n1 x1 := by
  refine h1.kept hg ?_
  rcases h1.2 with ⟨rfl, _⟩ | ⟨g, cap, cur, rfl, _, hr, _⟩
  · exact .inl rfl
  · right
    intro e
    rcases h2.2 with ⟨rfl, _⟩ | ⟨g', cap', cur', rfl, _, hr', _⟩
    · simp [Value.ownBlock] at e
    · simp [Value.ownBlock] at e
      subst e
      rw [hr] at hr'
      simp at hr'
      exact hne hr'.2
theorem row_set {w : World} {b1 e1 s1 n1 k : Nat} {v1 : Value} {x1 : List Value} {cs : Array Value} {t : TypeId} {fz : Nat × Nat} (h1 : w.ownsRow b1 e1 s1 v1 n1 x1) (hh : w.heap[k]? = some (.cells cs t fz)) (ht : t ≠ e1) (o : Nat) (u : Value) :
    (w.setCell ⟨k, o, none⟩ u).ownsRow b1 e1 s1 v1 n1 x1 := by
  refine ownsRow_setCell_other h1 (fun e => ?_) u
  rcases h1.2 with ⟨rfl, _⟩ | ⟨g, cap, cur, rfl, _, hr, _⟩
  · simp [Value.ownBlock] at e
  · simp [Value.ownBlock] at e
    subst e
    rw [hh] at hr
    simp at hr
    exact ht hr.2.1
theorem set_one {w : World} {k : Nat} {x y u : Value} {t : TypeId} (h : w.heap[k]? = some (.cells #[x, y] t (0, 0))) : (w.setCell ⟨k, 1, none⟩ u).heap[k]? = some (.cells #[x, u] t (0, 0)) := by
  have hlt := lt_of_block h
  have h' : w.heap[k] = .cells #[x, y] t (0, 0) := by simpa [Array.getElem?_eq_getElem hlt] using h
  show (w.heap.modify k _)[k]? = _
  rw [Array.getElem?_eq_getElem (by simpa using hlt), Array.getElem_modify_self, h']
  rfl
theorem set_zero {w : World} {k : Nat} {x y u : Value} {t : TypeId} (h : w.heap[k]? = some (.cells #[x, y] t (0, 0))) : (w.setCell ⟨k, 0, none⟩ u).heap[k]? = some (.cells #[u, y] t (0, 0)) := by
  have hlt := lt_of_block h
  have h' : w.heap[k] = .cells #[x, y] t (0, 0) := by simpa [Array.getElem?_eq_getElem hlt] using h
  show (w.heap.modify k _)[k]? = _
  rw [Array.getElem?_eq_getElem (by simpa using hlt), Array.getElem_modify_self, h']
  rfl
theorem Own.form {w : World} {base : Nat} {v : Value} {l : List M} (h : Own w base v l) (hv : v ≠ .slice none 0 0) :
    ∃ g cap, v = .slice (some ⟨g, 0, none⟩) l.length cap ∧ l.length ≤ cap ∧ base ≤ g ∧ g < w.heap.size := by
  rcases h.2 with ⟨h, _⟩ | ⟨g, cap, cur, h, hb, hh, hn, _⟩
  · exact absurd h hv
  · exact ⟨g, cap, h, hn, hb, lt_of_block hh⟩
theorem l11Copy_at (b : B) (v : Value) (w : World) (hb : BoxAt w v b) :
    Calls Try.prog 20 #[v] w fun e w' => ∃ g cap, e = .returned (.agg #[.int .i64 b.next, .slice (some ⟨g, 0, none⟩) b.mail.length cap]) ∧ b.mail.length ≤ cap ∧ w.heap.size ≤ g ∧ g < w'.heap.size ∧
      Own w' w.heap.size (.slice (some ⟨g, 0, none⟩) b.mail.length cap) b.mail ∧ Below w.heap.size w w' := by
  refine (l11Copy_any b v w hb).mono ?_
  rintro e w' ⟨s, rfl, ho, hne, hq⟩
  obtain ⟨g, cap, rfl, h1, h2, h3⟩ := ho.form hne
  exact ⟨g, cap, rfl, h1, h2, h3, ho, hq⟩
end Go.Proofs.Ytpahgjideppmoaa

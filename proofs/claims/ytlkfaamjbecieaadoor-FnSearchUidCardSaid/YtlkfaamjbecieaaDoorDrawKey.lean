/- WALKS: how a key is drawn. -/
import Derived.Test.YtlkfaamjbecieaaDoorDrawSet
import Derived.Test.YtlkfaamjbecieaaDoorKSpec
import Derived.Deep.RegionHeld3
import Derived.Deep.DeepCutAuto
import Derived.Deep.LoopGhost
import Derived.IntWalk
namespace Go.Proofs.YtlkfaamjbecieaaDoor
open Go.RowKit
set_option linter.unusedVariables false

theorem wp_append_row {P : Program} {w : World} {o : Oper} {a : Act} {K : Act → World → Prop} {Q : Exit → Act → World → Prop} (s x : Operand) (t : TypeId)
    (ho : o.op = .call { callee := .builtin .append, args := #[s, x], argTypes := #[t, t] })
    (base : Nat) (e : TypeId) (i : TypeInfo) (z : Value) (size bytes : Nat) (ht : P.underlying t = some (.slice e)) (hi : P.info? e = some i) (hz : i.zero = some z)
    (hsize : i.size = size) (hby : i.bytes = bytes) (hzs : z.cells.size = size) (hsz : 0 < size)
    (v : Value) (n : Nat) (xs : List Value) (hs : a.eval s = v) (hown : w.ownsRow base e size v n xs)
    (ad : Addr) (m c : Nat) (news : List Value) (hx : a.eval x = .slice (some ad) m c) (hm : 0 < m) (hl : news.length = m * size) (hnews : ∀ j u, news[j]? = some u → w.cell? (ad.add j) = some u) (h1 : ∀ u ∈ news, u.oneCell' = true)
    (h63 : n + m ≤ maxLen) (hbytes : (n + m) * bytes ≤ 140737488355328) (hbase : base ≤ w.heap.size)
    (h : ∀ g cap w', w'.ownsRow base e size (.slice (some ⟨g, 0, none⟩) (n + m) cap) (n + m) (xs ++ news) → w.grownBy w' v.ownBlock → K (a.put o.dst (.slice (some ⟨g, 0, none⟩) (n + m) cap)) w') : o.wp P a w K Q := by
  refine wp_append_own w s x t ho base e i z size bytes ht hi hz hsize hby hzs hsz v n xs hs hown ad m c news hx hl hnews h1 h63 hbytes hbase ?_
  intro v' w' r1 r2 r3
  have hne : v' ≠ .slice none 0 0 := fun e => by have := (r3.1 e).2; omega
  rcases r1.2 with ⟨h, _⟩ | ⟨g, cap', cur, rfl, _⟩
  · exact absurd h hne
  · exact h g cap' w' r1 r2
theorem step_append_row {P : Program} {w : World} {ops : Array Oper} {o : Oper} {a : Act} {K : Act → World → Prop} {Q : Exit → Act → World → Prop} {E : Prop} (hgd : o.guard = none) (s x : Operand) (t : TypeId)
    (ho : o.op = .call { callee := .builtin .append, args := #[s, x], argTypes := #[t, t] })
    (base : Nat) (e : TypeId) (i : TypeInfo) (z : Value) (size bytes : Nat) (ht : P.underlying t = some (.slice e)) (hi : P.info? e = some i) (hz : i.zero = some z)
    (hsize : i.size = size) (hby : i.bytes = bytes) (hzs : z.cells.size = size) (hsz : 0 < size)
    (v : Value) (n : Nat) (xs : List Value) (hs : a.eval s = v) (hown : w.ownsRow base e size v n xs)
    (ad : Addr) (m c : Nat) (news : List Value) (hx : a.eval x = .slice (some ad) m c) (hm : 0 < m) (hl : news.length = m * size) (hnews : ∀ j u, news[j]? = some u → w.cell? (ad.add j) = some u) (h1 : ∀ u ∈ news, u.oneCell' = true)
    (h63 : n + m ≤ maxLen) (hbytes : (n + m) * bytes ≤ 140737488355328) (hbase : base ≤ w.heap.size)
    (h : ∀ g cap w', w'.ownsRow base e size (.slice (some ⟨g, 0, none⟩) (n + m) cap) (n + m) (xs ++ news) → w.grownBy w' v.ownBlock → K (a.put o.dst (.slice (some ⟨g, 0, none⟩) (n + m) cap)) w') :
    if Region.wanted o (yielded ops a.tmps) = true then Oper.wp P o a w K Q else E := by
  have hw : Region.wanted o (yielded ops a.tmps) = true := by simp [Region.wanted, hgd]
  rw [if_pos hw]
  exact wp_append_row s x t ho base e i z size bytes ht hi hz hsize hby hzs hsz v n xs hs hown ad m c news hx hm hl hnews h1 h63 hbytes hbase h
/-- The cells of a row of keys. -/
def Cs (w : World) (S : Nat → Prop) (ks : List K) (cs : List Value) : Prop :=
  cs.length = ks.length * 5 ∧ ∀ i (h : i < ks.length), ∃ c0 c1 c2 c3 c4, cs[i * 5]? = some c0 ∧ cs[i * 5 + 1]? = some c1 ∧ cs[i * 5 + 2]? = some c2 ∧ cs[i * 5 + 3]? = some c3 ∧ cs[i * 5 + 4]? = some c4 ∧ KeyAt w S ks[i] (.agg #[c0, c1, c2, c3, c4])
theorem Cs.nil (w : World) (S : Nat → Prop) : Cs w S [] [] := ⟨rfl, fun i h => absurd h (Nat.not_lt_zero i)⟩
theorem Cs.kept {w w' : World} {S S' : Nat → Prop} {ks : List K} {cs : List Value} (h : Cs w S ks cs) (hS : ∀ j, S j → S' j) (hk : ∀ j, S j → w'.heap[j]? = w.heap[j]?) : Cs w' S' ks cs := by
  refine ⟨h.1, fun i hi => ?_⟩
  obtain ⟨c0, c1, c2, c3, c4, e0, e1, e2, e3, e4, hh⟩ := h.2 i hi
  exact ⟨c0, c1, c2, c3, c4, e0, e1, e2, e3, e4, KeyAt.kept hS hk _ _ hh⟩
theorem Cs.snoc {w : World} {S : Nat → Prop} {ks : List K} {cs : List Value} {k : K} {c0 c1 c2 c3 c4 : Value} (h : Cs w S ks cs) (hk : KeyAt w S k (.agg #[c0, c1, c2, c3, c4])) : Cs w S (ks ++ [k]) (cs ++ [c0, c1, c2, c3, c4]) := by
  have hl := h.1
  refine ⟨by simp [hl]; omega, fun i hi => ?_⟩
  by_cases hlt : i < ks.length
  · obtain ⟨d0, d1, d2, d3, d4, e0, e1, e2, e3, e4, hh⟩ := h.2 i hlt
    refine ⟨d0, d1, d2, d3, d4, ?_, ?_, ?_, ?_, ?_, ?_⟩
    · rw [List.getElem?_append_left (by omega)]; exact e0
    · rw [List.getElem?_append_left (by omega)]; exact e1
    · rw [List.getElem?_append_left (by omega)]; exact e2
    · rw [List.getElem?_append_left (by omega)]; exact e3
    · rw [List.getElem?_append_left (by omega)]; exact e4
    · rw [List.getElem_append_left hlt]; exact hh
  · have hi2 : i = ks.length := by simp at hi; omega
    subst hi2
    refine ⟨c0, c1, c2, c3, c4, ?_, ?_, ?_, ?_, ?_, ?_⟩
    · rw [List.getElem?_append_right (by omega), hl, Nat.sub_self]; rfl
    · rw [List.getElem?_append_right (by omega), hl, show ks.length * 5 + 1 - ks.length * 5 = 1 from by omega]; rfl
    · rw [List.getElem?_append_right (by omega), hl, show ks.length * 5 + 2 - ks.length * 5 = 2 from by omega]; rfl
    · rw [List.getElem?_append_right (by omega), hl, show ks.length * 5 + 3 - ks.length * 5 = 3 from by omega]; rfl
    · rw [List.getElem?_append_right (by omega), hl, show ks.length * 5 + 4 - ks.length * 5 = 4 from by omega]; rfl
    · rw [List.getElem_append_right (Nat.le_refl _)]; simpa using hk
theorem SetAt.none {w : World} {S : Nat → Prop} : SetAt w S (.slice none 0 0) [] := ⟨Option.none, 0, 0, rfl, rfl, Nat.le_refl _, ⟨Nat.zero_le _, fun _ => rfl⟩, .inl rfl⟩
theorem KeyAt.leaf {w : World} {S : Nat → Prop} {kd fl : Int} {t : ByteArray} {s : List (Int × Int)} {sv : Value} (hs : SetAt w S sv s) :
    KeyAt w S (.mk kd fl t s []) (.agg #[.int .i64 kd, .int .i64 fl, .string t, sv, .slice Option.none 0 0]) := by
  rw [KeyAt]
  exact ⟨sv, Option.none, 0, 0, rfl, hs, rfl, Nat.le_refl _, ⟨Nat.zero_le _, fun _ => rfl⟩, .inl rfl⟩
/-- A key over a row of keys that the call owns. -/
theorem KeyAt.row {w : World} {S S' : Nat → Prop} {base g n cp : Nat} {ks : List K} {cs : List Value} {kd fl : Int} {t : ByteArray} {s : List (Int × Int)} {sv : Value}
    (h : w.ownsRow base 29 5 (.slice (some ⟨g, 0, Option.none⟩) n cp) n cs) (hc : Cs w S ks cs) (hn : ks.length = n) (hmax : n ≤ 4398046511104) (hs : SetAt w S' sv s) (hS : ∀ j, S j → S' j) (hg : S' g) :
    KeyAt w S' (.mk kd fl t s ks) (.agg #[.int .i64 kd, .int .i64 fl, .string t, sv, .slice (some ⟨g, 0, Option.none⟩) n cp]) := by
  have hcell := World.ownsRow.cells h rfl
  have hcap : n ≤ cp := by
    rcases h.2 with ⟨h2, _⟩ | ⟨g', cap', cur, h2, _, _, hh, _⟩
    · cases h2
    · cases h2; exact hh
  rw [KeyAt]
  refine ⟨sv, _, n, cp, rfl, hs, hn, hcap, ⟨hmax, fun e => by cases e⟩, ?_⟩
  by_cases h0 : n = 0
  · exact .inl h0
  refine .inr ⟨g, 0, rfl, hg, fun i hi => ?_⟩
  obtain ⟨c0, c1, c2, c3, c4, e0, e1, e2, e3, e4, hh⟩ := hc.2 i hi
  have k0 := hcell _ _ e0
  have k1 := hcell _ _ e1
  have k2 := hcell _ _ e2
  have k3 := hcell _ _ e3
  have k4 := hcell _ _ e4
  rw [addr_add] at k0 k1 k2 k3 k4
  exact ⟨c0, c1, c2, c3, c4, k0, by rw [Nat.add_assoc]; exact k1, by rw [Nat.add_assoc]; exact k2, by rw [Nat.add_assoc]; exact k3, by rw [Nat.add_assoc]; exact k4, hh.more hS⟩
theorem row_ge {w : World} {base e size g n cp : Nat} {xs : List Value} (h : w.ownsRow base e size (.slice (some ⟨g, 0, none⟩) n cp) n xs) : base ≤ g := by
  rcases h.2 with ⟨h2, _⟩ | ⟨g', cap', cur, h2, hb, _⟩
  · cases h2
  · cases h2; exact hb
theorem row_lt {w : World} {base e size g n cp : Nat} {xs : List Value} (h : w.ownsRow base e size (.slice (some ⟨g, 0, none⟩) n cp) n xs) : g < w.heap.size := by
  rcases h.2 with ⟨h2, _⟩ | ⟨g', cap', cur, h2, _, hh, _⟩
  · cases h2
  · cases h2; exact lt_of_block hh
theorem row_more {w : World} {base base' e size n : Nat} {v : Value} {xs : List Value} (h : w.ownsRow base e size v n xs) (hb : base' ≤ base) : w.ownsRow base' e size v n xs := by
  refine ⟨h.1, ?_⟩
  rcases h.2 with h2 | ⟨g, cap, cur, hv, hg, r⟩
  · exact .inl h2
  · exact .inr ⟨g, cap, cur, hv, by omega, r⟩
theorem news5 {w : World} {c0 c1 c2 c3 c4 : Value} {t : TypeId} (j : Nat) (u : Value) (h : [c0, c1, c2, c3, c4][j]? = some u) : (w.alloc (.cells #[c0, c1, c2, c3, c4] t)).cell? ((⟨w.heap.size, 0, none⟩ : Addr).add j) = some u := by
  have hn := heap_alloc_new w (.cells #[c0, c1, c2, c3, c4] t)
  rw [addr_add]
  match j, h with
  | 0, h => exact cell_of_block hn h
  | 1, h => exact cell_of_block hn h
  | 2, h => exact cell_of_block hn h
  | 3, h => exact cell_of_block hn h
  | 4, h => exact cell_of_block hn h
  | j + 5, h => simp at h
theorem one5 (a b : Int) (t : ByteArray) (sa : Option Addr) (sn sc : Nat) (ka : Option Addr) (kn kc : Nat) : ∀ u ∈ [Value.int .i64 a, .int .i64 b, .string t, .slice sa sn sc, .slice ka kn kc], u.oneCell' = true := by
  intro u hu
  simp only [List.mem_cons, List.not_mem_nil, or_false] at hu
  rcases hu with rfl | rfl | rfl | rfl | rfl <;> rfl
theorem Tryd.infoKey : (Tryd.prog.info? 29).map (fun i => (i.zero, i.size, i.bytes)) = some (some (.agg #[.int .i64 0, .int .i64 0, .string ⟨#[]⟩, .slice none 0 0, .slice none 0 0]), 5, 80) := by kernel_rfl
/-- What is known while the keys of a key are drawn. -/
structure DK (w : World) (r K kb : Nat) (kd : Int) (a : Option Addr) (n cp : Nat) (ks : List Go.Proofs.YtlkfaamjbecieaaDoor.K) (cs : List Value) (S : Nat → Prop) (v : World) : Prop where
  rd : Rd v r K
  box : v.heap[kb]? = some (.cells #[.int .i64 kd, .int .i64 0, .string ⟨#[]⟩, .slice none 0 0, .slice a n cp] 29 (0, 0))
  res : v.heap[w.heap.size]? = some (.cells #[.int .i64 0, .int .i64 0, .string ⟨#[]⟩, .slice none 0 0, .slice none 0 0] 29 (0, 0))
  row : v.ownsRow (kb + 1) 29 5 (.slice a n cp) n cs
  cells : Cs v S ks cs
  len : ks.length = n
  ins : Ins S v
  low : ∀ j, S j → w.heap.size < j ∧ j ≠ kb
  gne : ∀ ad, a = some ad → (n < 2 → ¬ S ad.block) ∧ ad.block ≠ kb ∧ w.heap.size < ad.block
  gr : w.grownBy v (some r)
  lt : r < w.heap.size
  lk : w.heap.size < kb
theorem DK.call {w v v' : World} {r K K' kb n cp : Nat} {kd : Int} {a : Option Addr} {ks : List Go.Proofs.YtlkfaamjbecieaaDoor.K} {cs : List Value} {S : Nat → Prop} (h : DK w r K kb kd a n cp ks cs S v) (hr : Rd v' r K') (hg : v.grownBy v' (some r)) : DK w r K' kb kd a n cp ks cs S v' := by
  have h1 := h.lt; have h2 := h.lk
  refine ⟨hr, (hg.block _ (lt_of_block h.box) (by simp; omega)).trans h.box, (hg.block _ (lt_of_block h.res) (by simp; omega)).trans h.res, World.ownsRow.kept h.row hg ?_, h.cells.kept (fun _ h => h) fun j hj => hg.block j (h.ins.lt hj) (by have := h.low j hj; simp; omega), h.len, h.ins.le hg.size, h.low, h.gne, grown_trans h.gr hg, h1, h2⟩
  rcases a with _ | ad
  · exact .inl rfl
  · have := (h.gne ad rfl).2.2
    exact .inr (by simp [Value.ownBlock]; omega)
theorem DK.below {w v v' : World} {r K kb n cp : Nat} {kd : Int} {a : Option Addr} {ks : List Go.Proofs.YtlkfaamjbecieaaDoor.K} {cs : List Value} {S : Nat → Prop} (h : DK w r K kb kd a n cp ks cs S v) (hb : Below v.heap.size v v') : DK w r K kb kd a n cp ks cs S v' := h.call (h.rd.below hb) (grown_of_below hb)
theorem DK.more {w v : World} {r K K' kb n cp : Nat} {kd : Int} {a : Option Addr} {ks : List Go.Proofs.YtlkfaamjbecieaaDoor.K} {cs : List Value} {S : Nat → Prop} (h : DK w r K kb kd a n cp ks cs S v) (hK : K ≤ K') : DK w r K' kb kd a n cp ks cs S v :=
  ⟨h.rd.more hK, h.box, h.res, h.row, h.cells, h.len, h.ins, h.low, h.gne, h.gr, h.lt, h.lk⟩
theorem box_set4 {w : World} {b : Nat} {x0 x1 x2 x3 x4 u : Value} {t : TypeId} (h : w.heap[b]? = some (.cells #[x0, x1, x2, x3, x4] t (0, 0))) : (w.setCell ⟨b, 4, none⟩ u).heap[b]? = some (.cells #[x0, x1, x2, x3, u] t (0, 0)) := by
  have hlt := lt_of_block h
  have h' : w.heap[b] = .cells #[x0, x1, x2, x3, x4] t (0, 0) := by simpa [Array.getElem?_eq_getElem hlt] using h
  show (w.heap.modify b _)[b]? = _
  rw [Array.getElem?_eq_getElem (by simpa using hlt), Array.getElem_modify_self, h']
  rfl
/-- One key more was appended and stored. -/
theorem DK.push {w v v' : World} {r K kb n cp g' cp' : Nat} {kd : Int} {a : Option Addr} {ks : List Go.Proofs.YtlkfaamjbecieaaDoor.K} {cs : List Value} {S S2 S3 : Nat → Prop} {k : Go.Proofs.YtlkfaamjbecieaaDoor.K} {c0 c1 c2 c3 c4 : Value} (h : DK w r K kb kd a n cp ks cs S v)
    (hk : KeyAt v S2 k (.agg #[c0, c1, c2, c3, c4])) (hi2 : Ins S2 v) (hlow2 : ∀ j, S2 j → w.heap.size < j ∧ j ≠ kb ∧ ∀ ad, a = some ad → j ≠ ad.block) (hn2 : n < 2)
    (hS3 : ∀ j, S3 j ↔ S j ∨ S2 j)
    (hg : v.grownBy v' (Value.slice a n cp).ownBlock) (hrow : v'.ownsRow (kb + 1) 29 5 (.slice (some ⟨g', 0, none⟩) (n + 1) cp') (n + 1) (cs ++ [c0, c1, c2, c3, c4])) (hgn : (n + 1 < 2 → ¬ S3 g')) :
    DK w r K kb kd (some ⟨g', 0, none⟩) (n + 1) cp' (ks ++ [k]) (cs ++ [c0, c1, c2, c3, c4]) S3 (v'.setCell ⟨kb, 4, none⟩ (.slice (some ⟨g', 0, none⟩) (n + 1) cp')) := by
  have h1 := h.lt; have h2 := h.lk
  have hgk2 : kb + 1 ≤ g' := row_ge hrow
  have hgk : g' ≠ kb := by omega
  have hgw : w.heap.size < g' := by omega
  have oth : ∀ j, j < v.heap.size → (∀ ad, a = some ad → j ≠ ad.block) → v'.heap[j]? = v.heap[j]? := fun j hj hne => hg.block j hj (by
    rcases a with _ | ad
    · simp [Value.ownBlock]
    · simp [Value.ownBlock]; exact hne ad rfl)
  have set : ∀ j, j ≠ kb → (v'.setCell ⟨kb, 4, none⟩ (.slice (some ⟨g', 0, none⟩) (n + 1) cp')).heap[j]? = v'.heap[j]? := fun j hj => Below.heap_setCell _ _ _ _ hj
  have kS : ∀ j, S j → (v'.setCell ⟨kb, 4, none⟩ (.slice (some ⟨g', 0, none⟩) (n + 1) cp')).heap[j]? = v.heap[j]? := fun j hj => (set j (h.low j hj).2).trans (oth j (h.ins.lt hj) fun ad e => fun e2 => (h.gne ad e).1 hn2 (e2 ▸ hj))
  have kS2 : ∀ j, S2 j → (v'.setCell ⟨kb, 4, none⟩ (.slice (some ⟨g', 0, none⟩) (n + 1) cp')).heap[j]? = v.heap[j]? := fun j hj => (set j (hlow2 j hj).2.1).trans (oth j (hi2.lt hj) (hlow2 j hj).2.2)
  have gw : ∀ j, j ≤ w.heap.size → ∀ ad, a = some ad → j ≠ ad.block := fun j hj ad e => by have := (h.gne ad e).2.2; omega
  have sz : v.heap.size ≤ (v'.setCell ⟨kb, 4, none⟩ (.slice (some ⟨g', 0, none⟩) (n + 1) cp')).heap.size := by simpa [World.setCell] using hg.size
  refine ⟨h.rd.keep fun j hj => (set j (by omega)).trans (oth j (by have := h.rd.lt; omega) (gw j (by omega))), ?_, (set _ (by omega)).trans ((oth _ (lt_of_block h.res) (gw _ (Nat.le_refl _))).trans h.res), ?_, ?_, by simp [h.len], ?_, ?_, ?_, ?_, h1, h2⟩
  · exact box_set4 ((oth _ (lt_of_block h.box) (fun ad e => fun e2 => (h.gne ad e).2.1 e2.symm)).trans h.box)
  · exact ownsRow_setCell_other hrow (by simp [Value.ownBlock]; omega) _
  · exact (h.cells.kept (fun j hj => (hS3 j).2 (.inl hj)) kS).snoc (KeyAt.kept (fun j hj => (hS3 j).2 (.inr hj)) kS2 _ _ hk)
  · intro j hj
    rcases (hS3 j).1 hj with hj | hj
    · exact Nat.lt_of_lt_of_le (h.ins.lt hj) sz
    · exact Nat.lt_of_lt_of_le (hi2.lt hj) sz
  · intro j hj
    rcases (hS3 j).1 hj with hj | hj
    · exact h.low j hj
    · exact ⟨(hlow2 j hj).1, (hlow2 j hj).2.1⟩
  · intro ad e
    cases e
    exact ⟨hgn, hgk, hgw⟩
  · refine ⟨hg.os.trans h.gr.os, hg.tape.trans h.gr.tape, hg.output.trans h.gr.output, Nat.le_trans h.gr.size sz, fun j hj hr => (set j (by omega)).trans ((oth j (Nat.lt_of_lt_of_le hj h.gr.size) (gw j (by omega))).trans (h.gr.block j hj hr))⟩
theorem two_len {α : Type} : ∀ {l : List α}, l.length = 2 → ∃ c d, l = [c, d]
  | [c, d], _ => ⟨c, d, rfl⟩
theorem ne_two2 {a b : Nat} (h : a < b) : ¬ (a = b) ∧ ¬ (b = a) := by omega
/-- How many draws a key takes. -/
def cD : Nat → Nat
  | 0 => 70
  | d + 1 => 3 * cD d
theorem cD_pos (d : Nat) : 70 ≤ cD d := by
  induction d with
  | zero => exact Nat.le_refl _
  | succ d ih => simp only [cD]; omega
theorem of_at (r B b n cap : Nat) (P : ByteArray → Prop) (hn : 1 ≤ n) (hn' : n ≤ 1000) (hB : B ≤ 1000000) (w : World) (h : Rd w r B) (hb : b ≠ r) (hc : ∀ k, k < n → ∃ s, P s ∧ w.cell? ⟨b, k, none⟩ = some (.string s)) :
    Calls Tryd.prog 62 #[.pointer (some ⟨r, 0, none⟩), .slice (some ⟨b, 0, none⟩) n cap] w fun e w' => ∃ s, e = .returned (.string s) ∧ P s ∧ Rd w' r (B + 1) ∧ w.grownBy w' (some r) := by
  have HC := Lib.hid hc
  clear hc
  go_enter Tryd.func62, Tryd.ntmps62
  go_wp2_with fail
  refine (pick_any r B _ (by omega) (by omega) (by omega) _ h).mono ?_
  rintro e w1 ⟨m, rfl, hm, h1, g1⟩
  obtain ⟨s, hp, hs⟩ := HC.out m (by omega)
  have HP := Lib.hid hp
  have hs1 := (g1.block b (World.block_lt_of_cell? _ _ hs) (by simp; exact hb))
  have hs2 : w1.cell? ⟨b, m, none⟩ = some (.string s) := (World.cell?_of_block (a := ⟨b, m, none⟩) hs1).trans hs
  have hm' : m < n := by omega
  clear hs hs1 hp
  go_wp2_with fail
  go_ret
  exact ⟨s, rfl, HP.out, h1, g1⟩
/-- What a drawn key is. -/
def DrewKey (w : World) (r K d : Nat) (e : Ending) (w' : World) : Prop :=
  ∃ (k : Go.Proofs.YtlkfaamjbecieaaDoor.K) (S : Nat → Prop) (v : Value), e = .returned v ∧ KeyAt w' S k v ∧ Ins S w' ∧ (∀ j, S j → w.heap.size ≤ j) ∧ k.Fit ∧ k.nodes + 1 ≤ 2 ^ (d + 1) ∧ Rd w' r K ∧ w.grownBy w' (some r)
def textsKey : Array Value := #[.string ⟨#[98, 111, 98]⟩, .string ⟨#[120]⟩, .string ⟨#[97, 109, 121]⟩, .string ⟨#[111]⟩]
theorem textsKey_at (k : Nat) (hk : k < 4) : ∃ s : ByteArray, s.size ≤ 1048576 ∧ textsKey[k]? = some (.string s) := by
  match k, hk with
  | 0, _ => exact ⟨_, by decide, rfl⟩
  | 1, _ => exact ⟨_, by decide, rfl⟩
  | 2, _ => exact ⟨_, by decide, rfl⟩
  | 3, _ => exact ⟨_, by decide, rfl⟩
theorem Fit.leaf {kd fl : Int} {t : ByteArray} {s : List (Int × Int)} (ht : t.size ≤ 1048576) : (K.mk kd fl t s []).Fit := .mk _ ht fun c hc => by cases hc
theorem nodes_leaf (kd fl : Int) (t : ByteArray) (s : List (Int × Int)) : (K.mk kd fl t s []).nodes = 1 := by rw [K.nodes_eq]; simp [K.keys]
theorem wrap_pred (d : Nat) (h : d ≤ 3) (y : Int) (hy : y = (d : Int)) : IntKind.i64.wrap y = (d : Int) := by rw [IntWalk.i64_in y (by omega)]; exact hy
theorem pow_ge (d : Nat) : 2 ≤ 2 ^ (d + 1) := by
  have : 1 ≤ 2 ^ d := Nat.one_le_two_pow
  rw [Nat.pow_succ]; omega
/-- Five cells of one block are written. -/
def five (v : World) (b : Nat) (a0 a1 a2 a3 a4 : Value) : World := ((((v.setCell ⟨b, 0, none⟩ a0).setCell ⟨b, 1, none⟩ a1).setCell ⟨b, 2, none⟩ a2).setCell ⟨b, 3, none⟩ a3).setCell ⟨b, 4, none⟩ a4
theorem set_os (w : World) (a : Addr) (u : Value) : (w.setCell a u).os = w.os ∧ (w.setCell a u).tape = w.tape ∧ (w.setCell a u).output = w.output := ⟨rfl, rfl, rfl⟩
theorem five_keeps (v : World) (b : Nat) (a0 a1 a2 a3 a4 : Value) : (∀ j, j ≠ b → (five v b a0 a1 a2 a3 a4).heap[j]? = v.heap[j]?) ∧ (five v b a0 a1 a2 a3 a4).heap.size = v.heap.size ∧
    (five v b a0 a1 a2 a3 a4).os = v.os ∧ (five v b a0 a1 a2 a3 a4).tape = v.tape ∧ (five v b a0 a1 a2 a3 a4).output = v.output := by
  unfold five
  refine ⟨fun j hj => ?_, by simp [World.setCell], ?_, ?_, ?_⟩
  · rw [Below.heap_setCell _ _ _ _ hj, Below.heap_setCell _ _ _ _ hj, Below.heap_setCell _ _ _ _ hj, Below.heap_setCell _ _ _ _ hj, Below.heap_setCell _ _ _ _ hj]
  · rw [(set_os _ _ _).1, (set_os _ _ _).1, (set_os _ _ _).1, (set_os _ _ _).1, (set_os _ _ _).1]
  · rw [(set_os _ _ _).2.1, (set_os _ _ _).2.1, (set_os _ _ _).2.1, (set_os _ _ _).2.1, (set_os _ _ _).2.1]
  · rw [(set_os _ _ _).2.2, (set_os _ _ _).2.2, (set_os _ _ _).2.2, (set_os _ _ _).2.2, (set_os _ _ _).2.2]
theorem DrewKey.done {w v : World} {r K K' d : Nat} {k : Go.Proofs.YtlkfaamjbecieaaDoor.K} {S : Nat → Prop} {x : Value} (hk : KeyAt v S k x) (hi : Ins S v) (hl : ∀ j, S j → w.heap.size < j) (hF : k.Fit) (hn : k.nodes + 1 ≤ 2 ^ (d + 1)) (hr : Rd v r K') (hK : K' ≤ K) (hg : w.grownBy v (some r)) (hlt : r < w.heap.size) (a0 a1 a2 a3 a4 : Value) :
    DrewKey w r K d (.returned x) (((((v.setCell ⟨w.heap.size, 0, none⟩ a0).setCell ⟨w.heap.size, 1, none⟩ a1).setCell ⟨w.heap.size, 2, none⟩ a2).setCell ⟨w.heap.size, 3, none⟩ a3).setCell ⟨w.heap.size, 4, none⟩ a4) := by
  obtain ⟨h1, h2, h3, h4, h5⟩ := five_keeps v w.heap.size a0 a1 a2 a3 a4
  have key : ∀ W : World, (∀ j, j ≠ w.heap.size → W.heap[j]? = v.heap[j]?) → W.heap.size = v.heap.size → W.os = v.os → W.tape = v.tape → W.output = v.output → DrewKey w r K d (.returned x) W := fun W h1 h2 h3 h4 h5 =>
    ⟨k, S, x, rfl, KeyAt.kept (fun _ h => h) (fun j hj => h1 j (by have := hl j hj; omega)) _ _ hk, hi.le (by omega), fun j hj => Nat.le_of_lt (hl j hj), hF, hn, (hr.keep fun j hj => h1 j (by omega)).more hK,
      ⟨h3.trans hg.os, h4.trans hg.tape, h5.trans hg.output, by rw [h2]; exact hg.size, fun j hj hr => (h1 j (by omega)).trans (hg.block j hj hr)⟩⟩
  exact key _ h1 h2 h3 h4 h5
set_option maxRecDepth 8000 in
set_option maxHeartbeats 4000000 in
theorem l91Key_any : ∀ (d : Nat) (x : Int), x = (d : Int) → ∀ (r B : Nat) (w : World), d ≤ 3 → B + cD d ≤ 1000000 → Rd w r B →
    Calls Tryd.prog 48 #[.pointer (some ⟨r, 0, none⟩), .int .i64 x] w (DrewKey w r (B + cD d) d) := by
  intro d
  induction d with
  | zero =>
    intro x hx r B w hd hB h
    subst hx
    have hlt := h.lt
    have hcD : cD 0 = 70 := rfl
    obtain ⟨v0, hv0⟩ : ∃ v0, v0 = w.alloc (.cells #[.int .i64 0, .int .i64 0, .string ⟨#[]⟩, .slice none 0 0, .slice none 0 0] 29) := ⟨_, rfl⟩
    have hz0 : v0.heap[w.heap.size]? = some (.cells #[.int .i64 0, .int .i64 0, .string ⟨#[]⟩, .slice none 0 0, .slice none 0 0] 29 (0, 0)) := by rw [hv0]; exact heap_alloc_new w _
    have hR0 : Rd v0 r B := by rw [hv0]; exact h.below ((Below.refl _ _).alloc (Nat.le_refl _) _)
    have hG0 : w.grownBy v0 (some r) := by rw [hv0]; exact World.grownBy_alloc _ _ _
    have HV := Lib.hid hv0
    clear hv0 h
    rw [hcD] at hB
    have hKB : B + 70 ≤ B + cD 0 := by rw [hcD]; exact Nat.le_refl _
    obtain ⟨KT, hKT⟩ : ∃ KT, B + cD 0 = KT := ⟨_, rfl⟩
    rw [hKT] at hKB ⊢
    clear hKT hcD
    go_enter Tryd.func48, Tryd.ntmps48
    go_wp2_with fail
    rw [← HV.out]
    have hlv := hR0.lt
    refine (pick_any r (B) 9 (by omega) (by omega) (by omega) _ hR0).mono ?_
    rintro e v1 ⟨m, rfl, hm, hR, gR⟩
    have hz := (gR.block _ (lt_of_block hz0) (by simp; omega)).trans hz0
    have hG := grown_trans hG0 gR
    clear gR hz0 hR0 hG0
    obtain ⟨z0, z1, z2, z3, z4, y0, y1, y2, y3, y4⟩ := five_cells hz
    have hm9 : m = 0 ∨ (m = 1 ∨ m = 2) ∨ (m = 3 ∨ m = 4) ∨ (m = 5 ∨ m = 6) ∨ (m = 7 ∨ m = 8) := by omega
    rcases hm9 with rfl | h12 | h34 | h56 | h78
    · have HX : Hid (DrewKey w r (KT) (0) _ _) := DrewKey.done (k := .mk 0 0 ⟨#[]⟩ [] []) (KeyAt.leaf SetAt.none) (S := fun _ => False) (fun j hj => hj.elim) (fun j hj => hj.elim) (Fit.leaf (by decide)) (by rw [nodes_leaf]; exact pow_ge _) hR (by omega) hG hlt (.int .i64 0) (.int .i64 0) (.string ⟨#[]⟩) (.slice none 0 0) (.slice none 0 0)
      clear hR hG hz
      go_wp2_with fail
      exact bodyPost_ret (v := .agg #[.int .i64 0, .int .i64 0, .string ⟨#[]⟩, .slice none 0 0, .slice none 0 0]) (by simp [results, Tryd.results48, go_sem, *]) rfl HX.out
    · have hw2 : ∀ o, (v1.alloc o).heap[w.heap.size]? = v1.heap[w.heap.size]? := fun o => Below.heap_alloc _ _ _ (lt_of_block hz)
      have hc : ∀ k, k < 4 → ∃ s : ByteArray, s.size ≤ 1048576 ∧ (v1.alloc (.cells textsKey 9)).cell? ⟨v1.heap.size, k, none⟩ = some (.string s) := fun k hk => by
        obtain ⟨s, hs1, hs2⟩ := textsKey_at k hk
        exact ⟨s, hs1, cell_of_block (heap_alloc_new v1 _) hs2⟩
      have hR2 : Rd (v1.alloc (.cells textsKey 9)) r (B + 1) := hR.below ((Below.refl _ _).alloc (Nat.le_refl _) _)
      have HO := Lib.hid (of_at r (B + 1) v1.heap.size 4 4 (fun s => s.size ≤ 1048576) (by omega) (by omega) (by omega) _ hR2 (by have := hR.lt; omega) hc)
      have hz2 := (Below.heap_alloc v1 (.cells textsKey 9) _ (lt_of_block hz)).trans hz
      have hG2 := grown_trans hG (World.grownBy_alloc v1 (.cells textsKey 9) (some r))
      have HZ2 := Lib.hid hz2; have HG2 := Lib.hid hG2
      clear hw2 hc hR2 hR hG hz hz2 hG2
      rcases h12 with rfl | rfl
      all_goals
        go_wp2_with fail
        refine HO.out.mono ?_
        rintro e v2 ⟨s, rfl, hs, hR, gR⟩
        have hz := (gR.block _ (lt_of_block HZ2.out) (by simp; omega)).trans HZ2.out
        have hG := grown_trans HG2.out gR
        have HX : Hid (DrewKey w r (KT) (0) _ _) := DrewKey.done (k := .mk 2 0 s [] []) (KeyAt.leaf SetAt.none) (S := fun _ => False) (fun j hj => hj.elim) (fun j hj => hj.elim) (Fit.leaf hs) (by rw [nodes_leaf]; exact pow_ge _) hR (by omega) hG hlt (.int .i64 2) (.int .i64 0) (.string s) (.slice none 0 0) (.slice none 0 0)
        clear gR hR hG hs HO HZ2 HG2 z0 z1 z2 z3 z4 y0 y1 y2 y3 y4
        obtain ⟨z0, z1, z2, z3, z4, y0, y1, y2, y3, y4⟩ := five_cells hz
        clear hz
        go_wp2_with fail
        exact bodyPost_ret (v := .agg #[.int .i64 2, .int .i64 0, .string s, .slice none 0 0, .slice none 0 0]) (by simp [results, Tryd.results48, go_sem, *]) rfl HX.out
    · have HO := Lib.hid (l91Set_any r (B + 1) (by omega) v1 hR)
      have HZ := Lib.hid hz; have HG := Lib.hid hG
      clear hR hG hz
      rcases h34 with rfl | rfl
      all_goals
        go_wp2_with fail
        refine HO.out.mono ?_
        rintro e v2 ⟨l, sa, sc, rfl, hl, ho, hR, gR⟩
        have hz := (gR.block _ (lt_of_block HZ.out) (by simp; omega)).trans HZ.out
        have hG := grown_trans HG.out gR
        have hss : ∀ j, v1.heap.size ≤ j → j < v2.heap.size → (w.heap.size < j ∧ j < v2.heap.size) := fun j h1 h2 => ⟨by have := lt_of_block HZ.out; omega, h2⟩
        have HX : Hid (DrewKey w r (KT) (0) _ _) := DrewKey.done (k := .mk 3 0 ⟨#[]⟩ l []) (KeyAt.leaf (ho.set (by omega) (fun j => w.heap.size < j ∧ j < v2.heap.size) hss)) (fun j hj => hj.2) (fun j hj => hj.1) (Fit.leaf (by decide)) (by rw [nodes_leaf]; exact pow_ge _) hR (by omega) hG hlt (.int .i64 3) (.int .i64 0) (.string ⟨#[]⟩) (.slice sa l.length sc) (.slice none 0 0)
        clear gR hR hG hss ho HO HZ HG z0 z1 z2 z3 z4 y0 y1 y2 y3 y4
        obtain ⟨z0, z1, z2, z3, z4, y0, y1, y2, y3, y4⟩ := five_cells hz
        clear hz
        go_wp2_with fail
        exact bodyPost_ret (v := .agg #[.int .i64 3, .int .i64 0, .string ⟨#[]⟩, .slice sa l.length sc, .slice none 0 0]) (by simp [results, Tryd.results48, go_sem, *]) rfl HX.out
    · have HO := Lib.hid (l91Set_any r (B + 1) (by omega) v1 hR)
      have HZ := Lib.hid hz; have HG := Lib.hid hG
      clear hR hG hz
      rcases h56 with rfl | rfl
      all_goals
        go_wp2_with fail
        refine HO.out.mono ?_
        rintro e v2 ⟨l, sa, sc, rfl, hl, ho, hR, gR⟩
        have hz := (gR.block _ (lt_of_block HZ.out) (by simp; omega)).trans HZ.out
        have hG := grown_trans HG.out gR
        have hss : ∀ j, v1.heap.size ≤ j → j < v2.heap.size → (w.heap.size < j ∧ j < v2.heap.size) := fun j h1 h2 => ⟨by have := lt_of_block HZ.out; omega, h2⟩
        have HX : Hid (DrewKey w r (KT) (0) _ _) := DrewKey.done (k := .mk 4 0 ⟨#[]⟩ l []) (KeyAt.leaf (ho.set (by omega) (fun j => w.heap.size < j ∧ j < v2.heap.size) hss)) (fun j hj => hj.2) (fun j hj => hj.1) (Fit.leaf (by decide)) (by rw [nodes_leaf]; exact pow_ge _) hR (by omega) hG hlt (.int .i64 4) (.int .i64 0) (.string ⟨#[]⟩) (.slice sa l.length sc) (.slice none 0 0)
        clear gR hR hG hss ho HO HZ HG z0 z1 z2 z3 z4 y0 y1 y2 y3 y4
        obtain ⟨z0, z1, z2, z3, z4, y0, y1, y2, y3, y4⟩ := five_cells hz
        clear hz
        go_wp2_with fail
        exact bodyPost_ret (v := .agg #[.int .i64 4, .int .i64 0, .string ⟨#[]⟩, .slice sa l.length sc, .slice none 0 0]) (by simp [results, Tryd.results48, go_sem, *]) rfl HX.out
    · have HZ := Lib.hid hz; have HG := Lib.hid hG
      clear hG hz
      rcases h78 with rfl | rfl
      all_goals
        go_wp2_with fail
        refine (pick_any r (B + 1) 5 (by omega) (by omega) (by omega) _ hR).mono ?_
        rintro e v2 ⟨p, rfl, hp, hR, gR⟩
        go_wp2_with fail
        refine (l4Bit_any _ (by omega) (by omega) _).mono ?_
        rintro e v3 ⟨rfl, b5⟩
        have hz := (b5.block _ (by have := gR.size; have := lt_of_block HZ.out; omega)).trans ((gR.block _ (lt_of_block HZ.out) (by simp; omega)).trans HZ.out)
        have hG := grown_trans HG.out (grown_trans gR (grown_of_below b5))
        have hR3 := hR.below b5
        obtain ⟨F, hF⟩ : ∃ F : Int, ((2 ^ (p : Int).toNat : Nat) : Int) = F := ⟨_, rfl⟩
        rw [hF]
        have HX : Hid (DrewKey w r (KT) (0) _ _) := DrewKey.done (k := .mk 1 F ⟨#[]⟩ [] []) (KeyAt.leaf SetAt.none) (S := fun _ => False) (fun j hj => hj.elim) (fun j hj => hj.elim) (Fit.leaf (by decide)) (by rw [nodes_leaf]; exact pow_ge _) hR3 (by omega) hG hlt (.int .i64 1) (.int .i64 F) (.string ⟨#[]⟩) (.slice none 0 0) (.slice none 0 0)
        clear gR hR hR3 hG b5 hF HZ HG z0 z1 z2 z3 z4 y0 y1 y2 y3 y4
        obtain ⟨z0, z1, z2, z3, z4, y0, y1, y2, y3, y4⟩ := five_cells hz
        clear hz
        go_wp2_with fail
        exact bodyPost_ret (v := .agg #[.int .i64 1, .int .i64 F, .string ⟨#[]⟩, .slice none 0 0, .slice none 0 0]) (by simp [results, Tryd.results48, go_sem, *]) rfl HX.out
  | succ d ih =>
    intro x hx r B w hd hB h
    subst hx
    have hlt := h.lt
    have hX : cD (d + 1) = 3 * cD d := rfl
    have hX70 := cD_pos d
    obtain ⟨j0, hj, hy0, hy1, hy2⟩ := info_parts Tryd.infoKey
    obtain ⟨X, hXX⟩ : ∃ X, cD d = X := ⟨_, rfl⟩
    rw [hXX] at hX hX70 ih
    rw [hX] at hB ⊢
    clear hX hXX
    have hcall : ∀ (K : Nat) (W : World), K + X ≤ 1000000 → Rd W r K → Calls Tryd.prog 48 #[.pointer (some ⟨r, 0, none⟩), .int .i64 (IntKind.i64.wrap (d : Int))] W (DrewKey W r (K + X) d) := fun K W h1 h2 => ih _ (IntWalk.i64_in _ (by omega)) r K W (by omega) h1 h2
    have HC := Lib.hid hcall
    clear hcall
    obtain ⟨v0, hv0⟩ : ∃ v0, v0 = w.alloc (.cells #[.int .i64 0, .int .i64 0, .string ⟨#[]⟩, .slice none 0 0, .slice none 0 0] 29) := ⟨_, rfl⟩
    have hz0 : v0.heap[w.heap.size]? = some (.cells #[.int .i64 0, .int .i64 0, .string ⟨#[]⟩, .slice none 0 0, .slice none 0 0] 29 (0, 0)) := by rw [hv0]; exact heap_alloc_new w _
    have hR0 : Rd v0 r B := by rw [hv0]; exact h.below ((Below.refl _ _).alloc (Nat.le_refl _) _)
    have hG0 : w.grownBy v0 (some r) := by rw [hv0]; exact World.grownBy_alloc _ _ _
    have HV := Lib.hid hv0
    clear hv0 h ih
    obtain ⟨KT, hKT⟩ : ∃ KT, B + 3 * X = KT := ⟨_, rfl⟩
    rw [hKT] at hB ⊢
    have hKT2 : B + 3 * X ≤ KT := Nat.le_of_eq hKT
    clear hKT
    go_enter Tryd.func48, Tryd.ntmps48
    go_wp2_with fail
    rw [← HV.out]
    refine (pick_any r B 2 (by omega) (by omega) (by omega) _ hR0).mono ?_
    rintro e v1 ⟨q, rfl, hq, hR, gR⟩
    replace hz0 := (gR.block _ (lt_of_block hz0) (by simp; omega)).trans hz0
    replace hG0 := grown_trans hG0 gR
    clear gR hR0 HV
    replace hR0 := hR
    clear hR
    by_cases hq0 : q = 0
    · subst hq0
      go_wp2_with fail
      refine (pick_any r (B + 1) 3 (by omega) (by omega) (by omega) _ hR0).mono ?_
      rintro e v2 ⟨m, rfl, hm, hR, gR⟩
      have hz2 := (gR.block _ (lt_of_block hz0) (by simp; omega)).trans hz0
      have hG2 := grown_trans hG0 gR
      clear gR hz0 hR0 hG0
      have hm3 : m = 0 ∨ m = 1 ∨ m = 2 := by omega
      have hD : ∀ kd : Int, DK w r (B + 3 + 0 * X) v2.heap.size kd none 0 0 [] [] (fun _ => False) (v2.alloc (.cells #[.int .i64 kd, .int .i64 0, .string ⟨#[]⟩, .slice none 0 0, .slice none 0 0] 29)) := fun kd => by
        have hl := lt_of_block hz2
        refine ⟨(hR.below ((Below.refl _ _).alloc (Nat.le_refl _) _)).more (by omega), heap_alloc_new v2 _, (Below.heap_alloc _ _ _ hl).trans hz2, World.ownsRow_nil _ _ _ _, Cs.nil _ _, rfl, fun j hj => hj.elim, fun j hj => hj.elim, (fun ad e => by cases e), grown_trans hG2 (World.grownBy_alloc _ _ _), hlt, hl⟩
      have HD0 := Lib.hid hD
      clear hD hR hz2 hG2
      rcases hm3 with rfl | rfl | rfl
      · have HD := Lib.hid (HD0.out 5)
        clear HD0
        go_wp2_with fail
        go_loopg [6] 1 (fun gk i wr => ∃ (j cp : Nat) (a : Option Addr) (ks : List Go.Proofs.YtlkfaamjbecieaaDoor.K) (cs : List Value) (S : Nat → Prop), j + gk = 1 ∧ i = .int .i64 j ∧ Hid (j = 0 → a = none ∧ cp = 0 ∧ ks = [] ∧ cs = [] ∧ S = fun _ => False) ∧ Hid (∀ c ∈ ks, c.Fit ∧ c.nodes + 1 ≤ 2 ^ (d + 1)) ∧ Hid (DK w r (B + 3 + j * X) v2.heap.size 5 a j cp ks cs S wr))
        case atStart => exact ⟨0, 0, none, [], [], _, by omega, rfl, (fun _ => ⟨rfl, rfl, rfl, rfl, rfl⟩), (fun c hc => by cases hc), HD.out⟩
        case round =>
          clear HD
          obtain ⟨j, cp, a, ks, cs, S, hj2, rfl, HZ, HF, HD⟩ := hrel
          obtain ⟨e0, e1, e2, e3, e4, y0, y1, y2, y3, y4⟩ := five_cells HD.out.box
          by_cases hj0 : j = 0
          · subst hj0
            obtain ⟨rfl, rfl, rfl, rfl, rfl⟩ := HZ.out rfl
            have lb := lt_of_block HD.out.box
            go_upto_region 6 with fail
            have x2 : 0 + 1 ≤ maxLen := by unfold maxLen; omega
            have X2 := Lib.hid x2
            clear x2
            go_region_law
              (first
              | ((refine step_append_row (by rfl) _ _ _ (by rfl) v5.heap.size 29 j0 (.agg #[.int .i64 0, .int .i64 0, .string ⟨#[]⟩, .slice none 0 0, .slice none 0 0]) 5 80 Tryd.underlying27 hj hy0 hy1 hy2 rfl (by decide) (.slice none 0 0) 0 [] (by rfl) (World.ownsRow_nil _ _ _ _) ⟨v5.heap.size, 0, none⟩ 1 1 [.int .i64 kc.kind, .int .i64 kc.flag, .string kc.text, .slice sa sn sc, .slice ka kn kcap] (by rfl) (by decide) rfl (by exact fun j u h => news5 j u h) (one5 _ _ _ _ _ _ _ _ _) X2.out (by decide) (by go_size) ?_; intro g7 cp7 w7 hown7 hgrow; have g7l := row_ge hown7; have b7 := (hgrow.block v2.heap.size (Nat.lt_of_lt_of_le lb5 (by go_size)) (fun e => by cases e)).trans (DK.box (DK.below HM.out (by go_grown))); clear e0 e1 e2 e3 e4 y0 y1 y2 y3 y4; obtain ⟨e0, e1, e2, e3, e4, y0, y1, y2, y3, y4⟩ := five_cells b7; clear b7; have hP := DK.push (S3 := S2) (HM.out.below (by go_grown)) (HKK.out.below HI2.out (by go_grown)) (HI2.out.le (by go_size)) (fun j hj => ⟨(by have := HL2.out j hj; have := HM.out.lk; omega), (by have := HL2.out j hj; omega), (fun ad e => by cases e)⟩) (by omega) (fun j => ⟨.inr, (fun h => h.elim (fun h => h.elim) id)⟩) hgrow (row_more hown7 (by omega)) (fun _ h => by have := HI2.out.lt h; omega); have HP := Lib.hid hP; clear hP hown7 hgrow))
              | (go_simp; go_at_call 48; refine (HC.out (B + 3 + 0 * X) _ ?_ ?_).mono ?_; omega; exact DK.rd (DK.below HD.out (by go_grown)); rintro e v5 ⟨kc, S2, vv, rfl, hk, hi2, hl2, hF2, hn2, hR, gR⟩; obtain ⟨sa, sn, sc, ka, kn, kcap, rfl, _⟩ := hk.open; have hM := DK.call (HD.out.below (by go_grown)) hR gR; clear e0 e1 e2 e3 e4 y0 y1 y2 y3 y4; obtain ⟨e0, e1, e2, e3, e4, y0, y1, y2, y3, y4⟩ := five_cells hM.box; have lb5 := lt_of_block hM.box; have HM := Lib.hid hM; have HKK := Lib.hid hk; have HI2 := Lib.hid hi2; have hl3 : ∀ j, S2 j → wr.heap.size ≤ j := hl2; have HL2 := Lib.hid hl3; have HFF := Lib.hid (And.intro hF2 hn2); clear hM hk hi2 hl2 hl3 hF2 hn2 hR gR))
            all_goals
              go_wp2_with fail
              go_roundg (gk - 1)
              case measure => omega
              case rel => exact ⟨1, cp7, _, _, _, _, by omega, by go_num, (fun h => by cases h), (fun c hc => by simp at hc; subst hc; exact HFF.out), HP.out.more (by omega)⟩
          ·
            obtain rfl : j = 1 := by omega
            obtain ⟨g, rfl⟩ : ∃ g, a = some ⟨g, 0, none⟩ := by
              rcases HD.out.row.2 with ⟨_, h0⟩ | ⟨g, _, _, he, _⟩
              · cases h0
              · simp only [Value.slice.injEq] at he; exact ⟨g, he.1⟩
            obtain ⟨z0, z1, z2, z3, z4, s0, s1, s2, s3, s4⟩ := five_cells HD.out.res
            have nk := ne_two2 HD.out.lk
            have hlen := HD.out.len
            have hfit := HF.out
            have hnod : (K.mk 5 0 ⟨#[]⟩ [] ks).nodes + 1 ≤ 2 ^ (d + 1 + 1) := by
              rw [K.nodes_eq, Nat.pow_succ 2 (d + 1)]
              first | (obtain ⟨c, rfl⟩ := List.length_eq_one_iff.1 hlen; have hp := pow_ge d; have h1 := (hfit c (by simp)).2; simp [K.keys]; omega) | (obtain ⟨c, e, rfl⟩ := two_len hlen; have h1 := (hfit c (by simp)).2; have h2 := (hfit e (by simp)).2; simp [K.keys]; omega)
            have hF : (K.mk 5 0 ⟨#[]⟩ [] ks).Fit := .mk _ (show (⟨#[]⟩ : ByteArray).size ≤ 1048576 from by decide) fun c hc => (hfit c hc).1
            have gl := row_ge HD.out.row
            have HX : Hid (DrewKey w r KT (d + 1) _ _) := DrewKey.done (k := .mk 5 0 ⟨#[]⟩ [] ks) (S := fun j => S j ∨ j = g) (KeyAt.row HD.out.row HD.out.cells hlen (by decide) SetAt.none (fun j hj => .inl hj) (.inr rfl)) (fun j hj => by rcases hj with hj | rfl; exact HD.out.ins.lt hj; exact row_lt HD.out.row) (fun j hj => by rcases hj with hj | rfl; exact (HD.out.low j hj).1; have := HD.out.lk; omega) hF hnod HD.out.rd (by omega) HD.out.gr hlt (.int .i64 5) (.int .i64 0) (.string ⟨#[]⟩) (.slice none 0 0) (.slice (some ⟨g, 0, none⟩) 1 cp)
            clear HF HZ HD hlen hfit hnod hF
            go_wp2_with fail
            exact bodyPost_ret (v := .agg #[.int .i64 5, .int .i64 0, .string ⟨#[]⟩, .slice none 0 0, .slice (some ⟨g, 0, none⟩) 1 cp]) (by simp [results, Tryd.results48, go_sem, *]) rfl HX.out
      · have HD := Lib.hid (HD0.out 6)
        clear HD0
        go_wp2_with fail
        go_loopg [6] 2 (fun gk i wr => ∃ (j cp : Nat) (a : Option Addr) (ks : List Go.Proofs.YtlkfaamjbecieaaDoor.K) (cs : List Value) (S : Nat → Prop), j + gk = 2 ∧ i = .int .i64 j ∧ Hid (j = 0 → a = none ∧ cp = 0 ∧ ks = [] ∧ cs = [] ∧ S = fun _ => False) ∧ Hid (∀ c ∈ ks, c.Fit ∧ c.nodes + 1 ≤ 2 ^ (d + 1)) ∧ Hid (DK w r (B + 3 + j * X) v2.heap.size 6 a j cp ks cs S wr))
        case atStart => exact ⟨0, 0, none, [], [], _, by omega, rfl, (fun _ => ⟨rfl, rfl, rfl, rfl, rfl⟩), (fun c hc => by cases hc), HD.out⟩
        case round =>
          clear HD
          obtain ⟨j, cp, a, ks, cs, S, hj2, rfl, HZ, HF, HD⟩ := hrel
          obtain ⟨e0, e1, e2, e3, e4, y0, y1, y2, y3, y4⟩ := five_cells HD.out.box
          by_cases hj0 : j = 0
          · subst hj0
            obtain ⟨rfl, rfl, rfl, rfl, rfl⟩ := HZ.out rfl
            have lb := lt_of_block HD.out.box
            go_upto_region 6 with fail
            have x2 : 0 + 1 ≤ maxLen := by unfold maxLen; omega
            have X2 := Lib.hid x2
            clear x2
            go_region_law
              (first
              | ((refine step_append_row (by rfl) _ _ _ (by rfl) v5.heap.size 29 j0 (.agg #[.int .i64 0, .int .i64 0, .string ⟨#[]⟩, .slice none 0 0, .slice none 0 0]) 5 80 Tryd.underlying27 hj hy0 hy1 hy2 rfl (by decide) (.slice none 0 0) 0 [] (by rfl) (World.ownsRow_nil _ _ _ _) ⟨v5.heap.size, 0, none⟩ 1 1 [.int .i64 kc.kind, .int .i64 kc.flag, .string kc.text, .slice sa sn sc, .slice ka kn kcap] (by rfl) (by decide) rfl (by exact fun j u h => news5 j u h) (one5 _ _ _ _ _ _ _ _ _) X2.out (by decide) (by go_size) ?_; intro g7 cp7 w7 hown7 hgrow; have g7l := row_ge hown7; have b7 := (hgrow.block v2.heap.size (Nat.lt_of_lt_of_le lb5 (by go_size)) (fun e => by cases e)).trans (DK.box (DK.below HM.out (by go_grown))); clear e0 e1 e2 e3 e4 y0 y1 y2 y3 y4; obtain ⟨e0, e1, e2, e3, e4, y0, y1, y2, y3, y4⟩ := five_cells b7; clear b7; have hP := DK.push (S3 := S2) (HM.out.below (by go_grown)) (HKK.out.below HI2.out (by go_grown)) (HI2.out.le (by go_size)) (fun j hj => ⟨(by have := HL2.out j hj; have := HM.out.lk; omega), (by have := HL2.out j hj; omega), (fun ad e => by cases e)⟩) (by omega) (fun j => ⟨.inr, (fun h => h.elim (fun h => h.elim) id)⟩) hgrow (row_more hown7 (by omega)) (fun _ h => by have := HI2.out.lt h; omega); have HP := Lib.hid hP; clear hP hown7 hgrow))
              | (go_simp; go_at_call 48; refine (HC.out (B + 3 + 0 * X) _ ?_ ?_).mono ?_; omega; exact DK.rd (DK.below HD.out (by go_grown)); rintro e v5 ⟨kc, S2, vv, rfl, hk, hi2, hl2, hF2, hn2, hR, gR⟩; obtain ⟨sa, sn, sc, ka, kn, kcap, rfl, _⟩ := hk.open; have hM := DK.call (HD.out.below (by go_grown)) hR gR; clear e0 e1 e2 e3 e4 y0 y1 y2 y3 y4; obtain ⟨e0, e1, e2, e3, e4, y0, y1, y2, y3, y4⟩ := five_cells hM.box; have lb5 := lt_of_block hM.box; have HM := Lib.hid hM; have HKK := Lib.hid hk; have HI2 := Lib.hid hi2; have hl3 : ∀ j, S2 j → wr.heap.size ≤ j := hl2; have HL2 := Lib.hid hl3; have HFF := Lib.hid (And.intro hF2 hn2); clear hM hk hi2 hl2 hl3 hF2 hn2 hR gR))
            all_goals
              go_wp2_with fail
              go_roundg (gk - 1)
              case measure => omega
              case rel => exact ⟨1, cp7, _, _, _, _, by omega, by go_num, (fun h => by cases h), (fun c hc => by simp at hc; subst hc; exact HFF.out), HP.out.more (by omega)⟩
          ·
            by_cases hj1 : j = 1
            · subst hj1
              obtain ⟨g, rfl⟩ : ∃ g, a = some ⟨g, 0, none⟩ := by
                rcases HD.out.row.2 with ⟨_, h0⟩ | ⟨g, _, _, he, _⟩
                · cases h0
                · simp only [Value.slice.injEq] at he; exact ⟨g, he.1⟩
              have lg := row_lt HD.out.row
              clear HZ
              have lb := lt_of_block HD.out.box
              go_upto_region 6 with fail
              have x2 : 1 + 1 ≤ maxLen := by unfold maxLen; omega
              have X2 := Lib.hid x2
              clear x2
              go_region_law
                (first
                | ((refine step_append_row (by rfl) _ _ _ (by rfl) (v2.heap.size + 1) 29 j0 (.agg #[.int .i64 0, .int .i64 0, .string ⟨#[]⟩, .slice none 0 0, .slice none 0 0]) 5 80 Tryd.underlying27 hj hy0 hy1 hy2 rfl (by decide) (.slice (some ⟨g, 0, none⟩) 1 cp) 1 cs (by rfl) (DK.row (DK.below HM.out (by go_grown))) ⟨v5.heap.size, 0, none⟩ 1 1 [.int .i64 kc.kind, .int .i64 kc.flag, .string kc.text, .slice sa sn sc, .slice ka kn kcap] (by rfl) (by decide) rfl (by exact fun j u h => news5 j u h) (one5 _ _ _ _ _ _ _ _ _) X2.out (by decide) (by go_size) ?_; intro g7 cp7 w7 hown7 hgrow; have g7l := row_ge hown7; have b7 := (hgrow.block v2.heap.size (Nat.lt_of_lt_of_le lb5 (by go_size)) (fun e => (HM.out.gne _ rfl).2.1 (Option.some.inj e).symm)).trans (DK.box (DK.below HM.out (by go_grown))); clear e0 e1 e2 e3 e4 y0 y1 y2 y3 y4; obtain ⟨e0, e1, e2, e3, e4, y0, y1, y2, y3, y4⟩ := five_cells b7; clear b7; have hP := DK.push (S3 := fun j => S j ∨ S2 j) (HM.out.below (by go_grown)) (HKK.out.below HI2.out (by go_grown)) (HI2.out.le (by go_size)) (fun j hj => ⟨(by have := HL2.out j hj; have := HM.out.lk; omega), (by have := HL2.out j hj; omega), (fun ad e => by cases e; have := HL2.out j hj; show j ≠ g; omega)⟩) (by omega) (fun j => Iff.rfl) hgrow hown7 (fun h => by omega); have HP := Lib.hid hP; clear hP hown7 hgrow))
                | (go_simp; go_at_call 48; refine (HC.out (B + 3 + 1 * X) _ ?_ ?_).mono ?_; omega; exact DK.rd (DK.below HD.out (by go_grown)); rintro e v5 ⟨kc, S2, vv, rfl, hk, hi2, hl2, hF2, hn2, hR, gR⟩; obtain ⟨sa, sn, sc, ka, kn, kcap, rfl, _⟩ := hk.open; have hM := DK.call (HD.out.below (by go_grown)) hR gR; clear e0 e1 e2 e3 e4 y0 y1 y2 y3 y4; obtain ⟨e0, e1, e2, e3, e4, y0, y1, y2, y3, y4⟩ := five_cells hM.box; have lb5 := lt_of_block hM.box; have HM := Lib.hid hM; have HKK := Lib.hid hk; have HI2 := Lib.hid hi2; have hl3 : ∀ j, S2 j → wr.heap.size ≤ j := hl2; have HL2 := Lib.hid hl3; have HFF := Lib.hid (And.intro hF2 hn2); clear hM hk hi2 hl2 hl3 hF2 hn2 hR gR))
              all_goals
                go_wp2_with fail
                go_roundg (gk - 1)
                case measure => omega
                case rel => exact ⟨2, cp7, _, _, _, _, by omega, by go_num, (fun h => by cases h), (fun c hc => by rcases List.mem_append.1 hc with hc | hc; exact HF.out c hc; simp at hc; subst hc; exact HFF.out), HP.out.more (by omega)⟩
            · obtain rfl : j = 2 := by omega
              obtain ⟨g, rfl⟩ : ∃ g, a = some ⟨g, 0, none⟩ := by
                rcases HD.out.row.2 with ⟨_, h0⟩ | ⟨g, _, _, he, _⟩
                · cases h0
                · simp only [Value.slice.injEq] at he; exact ⟨g, he.1⟩
              obtain ⟨z0, z1, z2, z3, z4, s0, s1, s2, s3, s4⟩ := five_cells HD.out.res
              have nk := ne_two2 HD.out.lk
              have hlen := HD.out.len
              have hfit := HF.out
              have hnod : (K.mk 6 0 ⟨#[]⟩ [] ks).nodes + 1 ≤ 2 ^ (d + 1 + 1) := by
                rw [K.nodes_eq, Nat.pow_succ 2 (d + 1)]
                first | (obtain ⟨c, rfl⟩ := List.length_eq_one_iff.1 hlen; have hp := pow_ge d; have h1 := (hfit c (by simp)).2; simp [K.keys]; omega) | (obtain ⟨c, e, rfl⟩ := two_len hlen; have h1 := (hfit c (by simp)).2; have h2 := (hfit e (by simp)).2; simp [K.keys]; omega)
              have hF : (K.mk 6 0 ⟨#[]⟩ [] ks).Fit := .mk _ (show (⟨#[]⟩ : ByteArray).size ≤ 1048576 from by decide) fun c hc => (hfit c hc).1
              have gl := row_ge HD.out.row
              have HX : Hid (DrewKey w r KT (d + 1) _ _) := DrewKey.done (k := .mk 6 0 ⟨#[]⟩ [] ks) (S := fun j => S j ∨ j = g) (KeyAt.row HD.out.row HD.out.cells hlen (by decide) SetAt.none (fun j hj => .inl hj) (.inr rfl)) (fun j hj => by rcases hj with hj | rfl; exact HD.out.ins.lt hj; exact row_lt HD.out.row) (fun j hj => by rcases hj with hj | rfl; exact (HD.out.low j hj).1; have := HD.out.lk; omega) hF hnod HD.out.rd (by omega) HD.out.gr hlt (.int .i64 6) (.int .i64 0) (.string ⟨#[]⟩) (.slice none 0 0) (.slice (some ⟨g, 0, none⟩) 2 cp)
              clear HF HZ HD hlen hfit hnod hF
              go_wp2_with fail
              exact bodyPost_ret (v := .agg #[.int .i64 6, .int .i64 0, .string ⟨#[]⟩, .slice none 0 0, .slice (some ⟨g, 0, none⟩) 2 cp]) (by simp [results, Tryd.results48, go_sem, *]) rfl HX.out
      · have HD := Lib.hid (HD0.out 7)
        clear HD0
        go_wp2_with fail
        go_loopg [6] 2 (fun gk i wr => ∃ (j cp : Nat) (a : Option Addr) (ks : List Go.Proofs.YtlkfaamjbecieaaDoor.K) (cs : List Value) (S : Nat → Prop), j + gk = 2 ∧ i = .int .i64 j ∧ Hid (j = 0 → a = none ∧ cp = 0 ∧ ks = [] ∧ cs = [] ∧ S = fun _ => False) ∧ Hid (∀ c ∈ ks, c.Fit ∧ c.nodes + 1 ≤ 2 ^ (d + 1)) ∧ Hid (DK w r (B + 3 + j * X) v2.heap.size 7 a j cp ks cs S wr))
        case atStart => exact ⟨0, 0, none, [], [], _, by omega, rfl, (fun _ => ⟨rfl, rfl, rfl, rfl, rfl⟩), (fun c hc => by cases hc), HD.out⟩
        case round =>
          clear HD
          obtain ⟨j, cp, a, ks, cs, S, hj2, rfl, HZ, HF, HD⟩ := hrel
          obtain ⟨e0, e1, e2, e3, e4, y0, y1, y2, y3, y4⟩ := five_cells HD.out.box
          by_cases hj0 : j = 0
          · subst hj0
            obtain ⟨rfl, rfl, rfl, rfl, rfl⟩ := HZ.out rfl
            have lb := lt_of_block HD.out.box
            go_upto_region 6 with fail
            have x2 : 0 + 1 ≤ maxLen := by unfold maxLen; omega
            have X2 := Lib.hid x2
            clear x2
            go_region_law
              (first
              | ((refine step_append_row (by rfl) _ _ _ (by rfl) v5.heap.size 29 j0 (.agg #[.int .i64 0, .int .i64 0, .string ⟨#[]⟩, .slice none 0 0, .slice none 0 0]) 5 80 Tryd.underlying27 hj hy0 hy1 hy2 rfl (by decide) (.slice none 0 0) 0 [] (by rfl) (World.ownsRow_nil _ _ _ _) ⟨v5.heap.size, 0, none⟩ 1 1 [.int .i64 kc.kind, .int .i64 kc.flag, .string kc.text, .slice sa sn sc, .slice ka kn kcap] (by rfl) (by decide) rfl (by exact fun j u h => news5 j u h) (one5 _ _ _ _ _ _ _ _ _) X2.out (by decide) (by go_size) ?_; intro g7 cp7 w7 hown7 hgrow; have g7l := row_ge hown7; have b7 := (hgrow.block v2.heap.size (Nat.lt_of_lt_of_le lb5 (by go_size)) (fun e => by cases e)).trans (DK.box (DK.below HM.out (by go_grown))); clear e0 e1 e2 e3 e4 y0 y1 y2 y3 y4; obtain ⟨e0, e1, e2, e3, e4, y0, y1, y2, y3, y4⟩ := five_cells b7; clear b7; have hP := DK.push (S3 := S2) (HM.out.below (by go_grown)) (HKK.out.below HI2.out (by go_grown)) (HI2.out.le (by go_size)) (fun j hj => ⟨(by have := HL2.out j hj; have := HM.out.lk; omega), (by have := HL2.out j hj; omega), (fun ad e => by cases e)⟩) (by omega) (fun j => ⟨.inr, (fun h => h.elim (fun h => h.elim) id)⟩) hgrow (row_more hown7 (by omega)) (fun _ h => by have := HI2.out.lt h; omega); have HP := Lib.hid hP; clear hP hown7 hgrow))
              | (go_simp; go_at_call 48; refine (HC.out (B + 3 + 0 * X) _ ?_ ?_).mono ?_; omega; exact DK.rd (DK.below HD.out (by go_grown)); rintro e v5 ⟨kc, S2, vv, rfl, hk, hi2, hl2, hF2, hn2, hR, gR⟩; obtain ⟨sa, sn, sc, ka, kn, kcap, rfl, _⟩ := hk.open; have hM := DK.call (HD.out.below (by go_grown)) hR gR; clear e0 e1 e2 e3 e4 y0 y1 y2 y3 y4; obtain ⟨e0, e1, e2, e3, e4, y0, y1, y2, y3, y4⟩ := five_cells hM.box; have lb5 := lt_of_block hM.box; have HM := Lib.hid hM; have HKK := Lib.hid hk; have HI2 := Lib.hid hi2; have hl3 : ∀ j, S2 j → wr.heap.size ≤ j := hl2; have HL2 := Lib.hid hl3; have HFF := Lib.hid (And.intro hF2 hn2); clear hM hk hi2 hl2 hl3 hF2 hn2 hR gR))
            all_goals
              go_wp2_with fail
              go_roundg (gk - 1)
              case measure => omega
              case rel => exact ⟨1, cp7, _, _, _, _, by omega, by go_num, (fun h => by cases h), (fun c hc => by simp at hc; subst hc; exact HFF.out), HP.out.more (by omega)⟩
          ·
            by_cases hj1 : j = 1
            · subst hj1
              obtain ⟨g, rfl⟩ : ∃ g, a = some ⟨g, 0, none⟩ := by
                rcases HD.out.row.2 with ⟨_, h0⟩ | ⟨g, _, _, he, _⟩
                · cases h0
                · simp only [Value.slice.injEq] at he; exact ⟨g, he.1⟩
              have lg := row_lt HD.out.row
              clear HZ
              have lb := lt_of_block HD.out.box
              go_upto_region 6 with fail
              have x2 : 1 + 1 ≤ maxLen := by unfold maxLen; omega
              have X2 := Lib.hid x2
              clear x2
              go_region_law
                (first
                | ((refine step_append_row (by rfl) _ _ _ (by rfl) (v2.heap.size + 1) 29 j0 (.agg #[.int .i64 0, .int .i64 0, .string ⟨#[]⟩, .slice none 0 0, .slice none 0 0]) 5 80 Tryd.underlying27 hj hy0 hy1 hy2 rfl (by decide) (.slice (some ⟨g, 0, none⟩) 1 cp) 1 cs (by rfl) (DK.row (DK.below HM.out (by go_grown))) ⟨v5.heap.size, 0, none⟩ 1 1 [.int .i64 kc.kind, .int .i64 kc.flag, .string kc.text, .slice sa sn sc, .slice ka kn kcap] (by rfl) (by decide) rfl (by exact fun j u h => news5 j u h) (one5 _ _ _ _ _ _ _ _ _) X2.out (by decide) (by go_size) ?_; intro g7 cp7 w7 hown7 hgrow; have g7l := row_ge hown7; have b7 := (hgrow.block v2.heap.size (Nat.lt_of_lt_of_le lb5 (by go_size)) (fun e => (HM.out.gne _ rfl).2.1 (Option.some.inj e).symm)).trans (DK.box (DK.below HM.out (by go_grown))); clear e0 e1 e2 e3 e4 y0 y1 y2 y3 y4; obtain ⟨e0, e1, e2, e3, e4, y0, y1, y2, y3, y4⟩ := five_cells b7; clear b7; have hP := DK.push (S3 := fun j => S j ∨ S2 j) (HM.out.below (by go_grown)) (HKK.out.below HI2.out (by go_grown)) (HI2.out.le (by go_size)) (fun j hj => ⟨(by have := HL2.out j hj; have := HM.out.lk; omega), (by have := HL2.out j hj; omega), (fun ad e => by cases e; have := HL2.out j hj; show j ≠ g; omega)⟩) (by omega) (fun j => Iff.rfl) hgrow hown7 (fun h => by omega); have HP := Lib.hid hP; clear hP hown7 hgrow))
                | (go_simp; go_at_call 48; refine (HC.out (B + 3 + 1 * X) _ ?_ ?_).mono ?_; omega; exact DK.rd (DK.below HD.out (by go_grown)); rintro e v5 ⟨kc, S2, vv, rfl, hk, hi2, hl2, hF2, hn2, hR, gR⟩; obtain ⟨sa, sn, sc, ka, kn, kcap, rfl, _⟩ := hk.open; have hM := DK.call (HD.out.below (by go_grown)) hR gR; clear e0 e1 e2 e3 e4 y0 y1 y2 y3 y4; obtain ⟨e0, e1, e2, e3, e4, y0, y1, y2, y3, y4⟩ := five_cells hM.box; have lb5 := lt_of_block hM.box; have HM := Lib.hid hM; have HKK := Lib.hid hk; have HI2 := Lib.hid hi2; have hl3 : ∀ j, S2 j → wr.heap.size ≤ j := hl2; have HL2 := Lib.hid hl3; have HFF := Lib.hid (And.intro hF2 hn2); clear hM hk hi2 hl2 hl3 hF2 hn2 hR gR))
              all_goals
                go_wp2_with fail
                go_roundg (gk - 1)
                case measure => omega
                case rel => exact ⟨2, cp7, _, _, _, _, by omega, by go_num, (fun h => by cases h), (fun c hc => by rcases List.mem_append.1 hc with hc | hc; exact HF.out c hc; simp at hc; subst hc; exact HFF.out), HP.out.more (by omega)⟩
            · obtain rfl : j = 2 := by omega
              obtain ⟨g, rfl⟩ : ∃ g, a = some ⟨g, 0, none⟩ := by
                rcases HD.out.row.2 with ⟨_, h0⟩ | ⟨g, _, _, he, _⟩
                · cases h0
                · simp only [Value.slice.injEq] at he; exact ⟨g, he.1⟩
              obtain ⟨z0, z1, z2, z3, z4, s0, s1, s2, s3, s4⟩ := five_cells HD.out.res
              have nk := ne_two2 HD.out.lk
              have hlen := HD.out.len
              have hfit := HF.out
              have hnod : (K.mk 7 0 ⟨#[]⟩ [] ks).nodes + 1 ≤ 2 ^ (d + 1 + 1) := by
                rw [K.nodes_eq, Nat.pow_succ 2 (d + 1)]
                first | (obtain ⟨c, rfl⟩ := List.length_eq_one_iff.1 hlen; have hp := pow_ge d; have h1 := (hfit c (by simp)).2; simp [K.keys]; omega) | (obtain ⟨c, e, rfl⟩ := two_len hlen; have h1 := (hfit c (by simp)).2; have h2 := (hfit e (by simp)).2; simp [K.keys]; omega)
              have hF : (K.mk 7 0 ⟨#[]⟩ [] ks).Fit := .mk _ (show (⟨#[]⟩ : ByteArray).size ≤ 1048576 from by decide) fun c hc => (hfit c hc).1
              have gl := row_ge HD.out.row
              have HX : Hid (DrewKey w r KT (d + 1) _ _) := DrewKey.done (k := .mk 7 0 ⟨#[]⟩ [] ks) (S := fun j => S j ∨ j = g) (KeyAt.row HD.out.row HD.out.cells hlen (by decide) SetAt.none (fun j hj => .inl hj) (.inr rfl)) (fun j hj => by rcases hj with hj | rfl; exact HD.out.ins.lt hj; exact row_lt HD.out.row) (fun j hj => by rcases hj with hj | rfl; exact (HD.out.low j hj).1; have := HD.out.lk; omega) hF hnod HD.out.rd (by omega) HD.out.gr hlt (.int .i64 7) (.int .i64 0) (.string ⟨#[]⟩) (.slice none 0 0) (.slice (some ⟨g, 0, none⟩) 2 cp)
              clear HF HZ HD hlen hfit hnod hF
              go_wp2_with fail
              exact bodyPost_ret (v := .agg #[.int .i64 7, .int .i64 0, .string ⟨#[]⟩, .slice none 0 0, .slice (some ⟨g, 0, none⟩) 2 cp]) (by simp [results, Tryd.results48, go_sem, *]) rfl HX.out
    · have hq1 : ((q : Int) == 0) = false := by simp; omega
      have hKB : B + 1 + 70 ≤ KT := by omega
      clear HC
      go_wp2_with fail
      have hlv := hR0.lt
      refine (pick_any r (B + 1) 9 (by omega) (by omega) (by omega) _ hR0).mono ?_
      rintro e v1 ⟨m, rfl, hm, hR, gR⟩
      have hz := (gR.block _ (lt_of_block hz0) (by simp; omega)).trans hz0
      have hG := grown_trans hG0 gR
      clear gR hz0 hR0 hG0
      obtain ⟨z0, z1, z2, z3, z4, y0, y1, y2, y3, y4⟩ := five_cells hz
      have hm9 : m = 0 ∨ (m = 1 ∨ m = 2) ∨ (m = 3 ∨ m = 4) ∨ (m = 5 ∨ m = 6) ∨ (m = 7 ∨ m = 8) := by omega
      rcases hm9 with rfl | h12 | h34 | h56 | h78
      · have HX : Hid (DrewKey w r (KT) (d + 1) _ _) := DrewKey.done (k := .mk 0 0 ⟨#[]⟩ [] []) (KeyAt.leaf SetAt.none) (S := fun _ => False) (fun j hj => hj.elim) (fun j hj => hj.elim) (Fit.leaf (by decide)) (by rw [nodes_leaf]; exact pow_ge _) hR (by omega) hG hlt (.int .i64 0) (.int .i64 0) (.string ⟨#[]⟩) (.slice none 0 0) (.slice none 0 0)
        clear hR hG hz
        go_wp2_with fail
        exact bodyPost_ret (v := .agg #[.int .i64 0, .int .i64 0, .string ⟨#[]⟩, .slice none 0 0, .slice none 0 0]) (by simp [results, Tryd.results48, go_sem, *]) rfl HX.out
      · have hw2 : ∀ o, (v1.alloc o).heap[w.heap.size]? = v1.heap[w.heap.size]? := fun o => Below.heap_alloc _ _ _ (lt_of_block hz)
        have hc : ∀ k, k < 4 → ∃ s : ByteArray, s.size ≤ 1048576 ∧ (v1.alloc (.cells textsKey 9)).cell? ⟨v1.heap.size, k, none⟩ = some (.string s) := fun k hk => by
          obtain ⟨s, hs1, hs2⟩ := textsKey_at k hk
          exact ⟨s, hs1, cell_of_block (heap_alloc_new v1 _) hs2⟩
        have hR2 : Rd (v1.alloc (.cells textsKey 9)) r (B + 1 + 1) := hR.below ((Below.refl _ _).alloc (Nat.le_refl _) _)
        have HO := Lib.hid (of_at r (B + 1 + 1) v1.heap.size 4 4 (fun s => s.size ≤ 1048576) (by omega) (by omega) (by omega) _ hR2 (by have := hR.lt; omega) hc)
        have hz2 := (Below.heap_alloc v1 (.cells textsKey 9) _ (lt_of_block hz)).trans hz
        have hG2 := grown_trans hG (World.grownBy_alloc v1 (.cells textsKey 9) (some r))
        have HZ2 := Lib.hid hz2; have HG2 := Lib.hid hG2
        clear hw2 hc hR2 hR hG hz hz2 hG2
        rcases h12 with rfl | rfl
        all_goals
          go_wp2_with fail
          refine HO.out.mono ?_
          rintro e v2 ⟨s, rfl, hs, hR, gR⟩
          have hz := (gR.block _ (lt_of_block HZ2.out) (by simp; omega)).trans HZ2.out
          have hG := grown_trans HG2.out gR
          have HX : Hid (DrewKey w r (KT) (d + 1) _ _) := DrewKey.done (k := .mk 2 0 s [] []) (KeyAt.leaf SetAt.none) (S := fun _ => False) (fun j hj => hj.elim) (fun j hj => hj.elim) (Fit.leaf hs) (by rw [nodes_leaf]; exact pow_ge _) hR (by omega) hG hlt (.int .i64 2) (.int .i64 0) (.string s) (.slice none 0 0) (.slice none 0 0)
          clear gR hR hG hs HO HZ2 HG2 z0 z1 z2 z3 z4 y0 y1 y2 y3 y4
          obtain ⟨z0, z1, z2, z3, z4, y0, y1, y2, y3, y4⟩ := five_cells hz
          clear hz
          go_wp2_with fail
          exact bodyPost_ret (v := .agg #[.int .i64 2, .int .i64 0, .string s, .slice none 0 0, .slice none 0 0]) (by simp [results, Tryd.results48, go_sem, *]) rfl HX.out
      · have HO := Lib.hid (l91Set_any r (B + 1 + 1) (by omega) v1 hR)
        have HZ := Lib.hid hz; have HG := Lib.hid hG
        clear hR hG hz
        rcases h34 with rfl | rfl
        all_goals
          go_wp2_with fail
          refine HO.out.mono ?_
          rintro e v2 ⟨l, sa, sc, rfl, hl, ho, hR, gR⟩
          have hz := (gR.block _ (lt_of_block HZ.out) (by simp; omega)).trans HZ.out
          have hG := grown_trans HG.out gR
          have hss : ∀ j, v1.heap.size ≤ j → j < v2.heap.size → (w.heap.size < j ∧ j < v2.heap.size) := fun j h1 h2 => ⟨by have := lt_of_block HZ.out; omega, h2⟩
          have HX : Hid (DrewKey w r (KT) (d + 1) _ _) := DrewKey.done (k := .mk 3 0 ⟨#[]⟩ l []) (KeyAt.leaf (ho.set (by omega) (fun j => w.heap.size < j ∧ j < v2.heap.size) hss)) (fun j hj => hj.2) (fun j hj => hj.1) (Fit.leaf (by decide)) (by rw [nodes_leaf]; exact pow_ge _) hR (by omega) hG hlt (.int .i64 3) (.int .i64 0) (.string ⟨#[]⟩) (.slice sa l.length sc) (.slice none 0 0)
          clear gR hR hG hss ho HO HZ HG z0 z1 z2 z3 z4 y0 y1 y2 y3 y4
          obtain ⟨z0, z1, z2, z3, z4, y0, y1, y2, y3, y4⟩ := five_cells hz
          clear hz
          go_wp2_with fail
          exact bodyPost_ret (v := .agg #[.int .i64 3, .int .i64 0, .string ⟨#[]⟩, .slice sa l.length sc, .slice none 0 0]) (by simp [results, Tryd.results48, go_sem, *]) rfl HX.out
      · have HO := Lib.hid (l91Set_any r (B + 1 + 1) (by omega) v1 hR)
        have HZ := Lib.hid hz; have HG := Lib.hid hG
        clear hR hG hz
        rcases h56 with rfl | rfl
        all_goals
          go_wp2_with fail
          refine HO.out.mono ?_
          rintro e v2 ⟨l, sa, sc, rfl, hl, ho, hR, gR⟩
          have hz := (gR.block _ (lt_of_block HZ.out) (by simp; omega)).trans HZ.out
          have hG := grown_trans HG.out gR
          have hss : ∀ j, v1.heap.size ≤ j → j < v2.heap.size → (w.heap.size < j ∧ j < v2.heap.size) := fun j h1 h2 => ⟨by have := lt_of_block HZ.out; omega, h2⟩
          have HX : Hid (DrewKey w r (KT) (d + 1) _ _) := DrewKey.done (k := .mk 4 0 ⟨#[]⟩ l []) (KeyAt.leaf (ho.set (by omega) (fun j => w.heap.size < j ∧ j < v2.heap.size) hss)) (fun j hj => hj.2) (fun j hj => hj.1) (Fit.leaf (by decide)) (by rw [nodes_leaf]; exact pow_ge _) hR (by omega) hG hlt (.int .i64 4) (.int .i64 0) (.string ⟨#[]⟩) (.slice sa l.length sc) (.slice none 0 0)
          clear gR hR hG hss ho HO HZ HG z0 z1 z2 z3 z4 y0 y1 y2 y3 y4
          obtain ⟨z0, z1, z2, z3, z4, y0, y1, y2, y3, y4⟩ := five_cells hz
          clear hz
          go_wp2_with fail
          exact bodyPost_ret (v := .agg #[.int .i64 4, .int .i64 0, .string ⟨#[]⟩, .slice sa l.length sc, .slice none 0 0]) (by simp [results, Tryd.results48, go_sem, *]) rfl HX.out
      · have HZ := Lib.hid hz; have HG := Lib.hid hG
        clear hG hz
        rcases h78 with rfl | rfl
        all_goals
          go_wp2_with fail
          refine (pick_any r (B + 1 + 1) 5 (by omega) (by omega) (by omega) _ hR).mono ?_
          rintro e v2 ⟨p, rfl, hp, hR, gR⟩
          go_wp2_with fail
          refine (l4Bit_any _ (by omega) (by omega) _).mono ?_
          rintro e v3 ⟨rfl, b5⟩
          have hz := (b5.block _ (by have := gR.size; have := lt_of_block HZ.out; omega)).trans ((gR.block _ (lt_of_block HZ.out) (by simp; omega)).trans HZ.out)
          have hG := grown_trans HG.out (grown_trans gR (grown_of_below b5))
          have hR3 := hR.below b5
          obtain ⟨F, hF⟩ : ∃ F : Int, ((2 ^ (p : Int).toNat : Nat) : Int) = F := ⟨_, rfl⟩
          rw [hF]
          have HX : Hid (DrewKey w r (KT) (d + 1) _ _) := DrewKey.done (k := .mk 1 F ⟨#[]⟩ [] []) (KeyAt.leaf SetAt.none) (S := fun _ => False) (fun j hj => hj.elim) (fun j hj => hj.elim) (Fit.leaf (by decide)) (by rw [nodes_leaf]; exact pow_ge _) hR3 (by omega) hG hlt (.int .i64 1) (.int .i64 F) (.string ⟨#[]⟩) (.slice none 0 0) (.slice none 0 0)
          clear gR hR hR3 hG b5 hF HZ HG z0 z1 z2 z3 z4 y0 y1 y2 y3 y4
          obtain ⟨z0, z1, z2, z3, z4, y0, y1, y2, y3, y4⟩ := five_cells hz
          clear hz
          go_wp2_with fail
          exact bodyPost_ret (v := .agg #[.int .i64 1, .int .i64 F, .string ⟨#[]⟩, .slice none 0 0, .slice none 0 0]) (by simp [results, Tryd.results48, go_sem, *]) rfl HX.out
end Go.Proofs.YtlkfaamjbecieaaDoor

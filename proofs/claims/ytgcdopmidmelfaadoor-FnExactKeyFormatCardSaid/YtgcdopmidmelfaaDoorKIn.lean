/- KEYS THAT COME IN: what an argument that is a key gives the walk; its weight. -/
import Derived.Test.YtgcdopmidmelfaaDoorKMem
import Derived.Test.YtgcdopmidmelfaaDoorFrame
import Derived.Lib.SmallJoins
import Derived.Deep.Slices
import Derived.Deep.Fields
import Derived.ChangeSame
namespace Go.Proofs.YtgcdopmidmelfaaDoor
open Go.ChangeShapes Go.WideShapes Go.ChangeAt Go.RowKit Go.Joins Go.Deep
set_option linter.unusedVariables false
set_option maxRecDepth 100000

/-- What a key weighs: texts, spans and keys. -/
def K.wt (k : K) : Nat := k.text.size + k.set.length + k.keys.length + (k.keys.attach.map fun c => K.wt c.1).sum
termination_by SizeOf.sizeOf k
decreasing_by exact K.lt c.2
theorem K.wt_eq (k : K) : k.wt = k.text.size + k.set.length + k.keys.length + (k.keys.map K.wt).sum := by
  rw [K.wt]
  congr 2
  rw [List.map_attach_eq_pmap] <;> simp
theorem wt_mem : ∀ (l : List K) (c : K), c ∈ l → c.wt ≤ (l.map K.wt).sum
  | [], c, h => by cases h
  | x :: l, c, h => by
    rw [List.map_cons, List.sum_cons]
    rcases List.mem_cons.1 h with rfl | h
    · omega
    · have := wt_mem l c h; omega
theorem sums_le : ∀ (l : List K), (∀ c ∈ l, c.nodes ≤ c.wt + 1) → (l.map K.nodes).sum ≤ l.length + (l.map K.wt).sum
  | [], _ => by simp
  | x :: l, h => by
    have h1 := h x (List.mem_cons_self ..)
    have h2 := sums_le l fun c hc => h c (List.mem_cons_of_mem _ hc)
    simp only [List.map_cons, List.sum_cons, List.length_cons]
    omega
theorem K.nodes_wt (k : K) : k.nodes ≤ k.wt + 1 := by
  induction k using K.ind with
  | h k ih =>
    have := sums_le k.keys ih
    rw [K.nodes_eq, K.wt_eq]; omega
theorem K.fit_wt (k : K) : k.wt ≤ 1048576 → k.Fit := by
  induction k using K.ind with
  | h k ih =>
    intro h
    rw [K.wt_eq] at h
    exact .mk k (by omega) fun c hc => ih c hc (by have := wt_mem _ _ hc; omega)
/-- What is left of a room. -/
def res (left : Int) (x : Nat) : Int := if (x : Int) ≤ left then left - x else -1
theorem res_ok {left : Int} {x : Nat} (h : (x : Int) ≤ left) : res left x = left - x := if_pos h
theorem res_no {left : Int} {x : Nat} (h : left < (x : Int)) : res left x = -1 := if_neg (by omega)

/-- Spans that came in. -/
def SetIn (w : World) (v : Value) (l : List (Int × Int)) : Prop :=
  ∃ a n cap, v = .slice a n cap ∧ l.length = n ∧ n ≤ cap ∧ (cap ≤ maxLen ∧ (a = none → cap = 0)) ∧ (n = 0 ∨ ∃ b off, a = some ⟨b, off, none⟩ ∧ b < w.heap.size ∧
    ∀ i s, l[i]? = some s → w.cell? ⟨b, off + i * 2, none⟩ = some (.int .i64 s.1) ∧ w.cell? ⟨b, off + i * 2 + 1, none⟩ = some (.int .i64 s.2))
/-- A key that came in. -/
def KeyIn (w : World) (k : K) (v : Value) : Prop :=
  ∃ sv a n cap, v = .agg #[.int .i64 k.kind, .int .i64 k.flag, .string k.text, sv, .slice a n cap] ∧ k.text.size ≤ maxLen ∧ SetIn w sv k.set ∧ k.keys.length = n ∧ n ≤ cap ∧ (cap ≤ maxLen ∧ (a = none → cap = 0)) ∧ (n = 0 ∨ ∃ b off, a = some ⟨b, off, none⟩ ∧ b < w.heap.size ∧
    ∀ i (h : i < k.keys.length), ∃ c0 c1 c2 c3 c4, w.cell? ⟨b, off + i * 5, none⟩ = some c0 ∧ w.cell? ⟨b, off + i * 5 + 1, none⟩ = some c1 ∧ w.cell? ⟨b, off + i * 5 + 2, none⟩ = some c2 ∧ w.cell? ⟨b, off + i * 5 + 3, none⟩ = some c3 ∧ w.cell? ⟨b, off + i * 5 + 4, none⟩ = some c4 ∧
      KeyIn w k.keys[i] (.agg #[c0, c1, c2, c3, c4]))
termination_by SizeOf.sizeOf k
decreasing_by exact K.lt (List.getElem_mem _)
theorem SetIn.below {w w' : World} {v : Value} {l : List (Int × Int)} (h : SetIn w v l) (hb : Below w.heap.size w w') : SetIn w' v l := by
  obtain ⟨a, n, cap, hv, hl, hc, hm, h⟩ := h
  refine ⟨a, n, cap, hv, hl, hc, hm, ?_⟩
  rcases h with h0 | ⟨b, off, ha, hlt, h⟩
  · exact .inl h0
  · exact .inr ⟨b, off, ha, Nat.lt_of_lt_of_le hlt hb.size, fun i s hi => ⟨(hb.cell (p := ⟨b, _, none⟩) hlt).trans (h i s hi).1, (hb.cell (p := ⟨b, _, none⟩) hlt).trans (h i s hi).2⟩⟩
theorem KeyIn.below {w w' : World} (hb : Below w.heap.size w w') (k : K) : ∀ v, KeyIn w k v → KeyIn w' k v := by
  induction k using K.ind with
  | h k ih =>
    intro v h
    rw [KeyIn] at h ⊢
    obtain ⟨sv, a, n, cap, hv, ht, hs, hl, hc, hm, h⟩ := h
    refine ⟨sv, a, n, cap, hv, ht, hs.below hb, hl, hc, hm, ?_⟩
    rcases h with h0 | ⟨b, off, ha, hlt, h⟩
    · exact .inl h0
    · refine .inr ⟨b, off, ha, Nat.lt_of_lt_of_le hlt hb.size, fun i hi => ?_⟩
      obtain ⟨c0, c1, c2, c3, c4, e0, e1, e2, e3, e4, hh⟩ := h i hi
      have q : ∀ o c, w.cell? ⟨b, o, none⟩ = some c → w'.cell? ⟨b, o, none⟩ = some c := fun o c e => (hb.cell (p := ⟨b, o, none⟩) hlt).trans e
      exact ⟨c0, c1, c2, c3, c4, q _ _ e0, q _ _ e1, q _ _ e2, q _ _ e3, q _ _ e4, ih _ (List.getElem_mem _) _ hh⟩

section
variable {H : Type} {enc : TypeId × Value → H} {P : Program} {w : World} {base : Nat} {spare : Nat → Bool} {held : Bool}
theorem open_slice_fields {t e : TypeId} {fs : Array Field} {fuel : Nat} {cs : List Value} {x : DataW H × List MemPlace} (ht : P.underlying t = some (.slice e)) (he : P.underlying e = some (.struct fs))
    (hone : oneCellFields P fs = true) (hC : P.cellsOf e = fs.size) (h : DataW.trod enc P w base spare held fuel t cs = some x) :
    (cs = [.slice none 0 0] ∧ x = (.nil, [])) ∨
    ∃ (a : Addr) (len cap m : Nat) (D : Nat → DataW H) (Pl : Nat → List MemPlace), cs = [.slice (some a) len cap] ∧ base ≤ a.block ∧ len ≤ cap ∧ cap ≤ maxLen ∧ m = (if spare a.block then cap else len) ∧
      x = (.slice ((List.range len).map D) ((List.range (m - len)).map fun j => D (len + j)), MemPlace.row a (m * fs.size) ++ (List.range m).flatMap Pl) ∧
      ∀ i, i < m → ∃ (ys : List (DataW H × List MemPlace)) (n : Nat), D i = .agg (ys.map (·.1)) ∧ Pl i = ys.flatMap (·.2) ∧ ys.length = fs.size ∧
        ∀ (j : Nat) (f : Field), fs[j]? = some f → ∃ (v : Value) (y : DataW H × List MemPlace), w.cell? (a.add (i * fs.size + j)) = some v ∧ ys[j]? = some y ∧ DataW.trod enc P w base spare held n f.type [v] = some y := by
  rcases open_slice ht h with h0 | ⟨a, len, cap, m, n, D, Pl, hcs, hb, hl, hm, hmm, hx, hi⟩
  · exact .inl h0
  · refine .inr ⟨a, len, cap, m, D, Pl, hcs, hb, hl, hm, hmm, by rw [hC] at hx; exact hx, fun i him => ?_⟩
    obtain ⟨cs', hc, ht'⟩ := hi i him
    rw [hC] at hc
    obtain ⟨ys, n', hn', hy, hlen, hyl, hf⟩ := DataW.trod_struct he ht'
    obtain ⟨_, hcl, hat⟩ := World.cells?_some hc
    simp only [Prod.mk.injEq] at hy
    refine ⟨ys, n', hy.1, hy.2, hyl, fun j f hj => ?_⟩
    obtain ⟨ho, hk⟩ := hone_of hone j f hj
    have hjl : j < fs.size := (Array.getElem?_eq_some_iff.1 hj).1
    have hcell := hat j hjl
    have hv : cs'[j]? = some (cs'[j]'(by omega)) := List.getElem?_eq_getElem (by omega)
    have h1 := hf j f hj
    rw [ho, hk] at h1
    have hone' : (cs'.drop j).take 1 = [cs'[j]'(by omega)] := by
      rw [List.drop_eq_getElem_cons (by omega)]
      rfl
    rw [hone'] at h1
    have hys : ys[j]? = some (ys[j]'(by omega)) := List.getElem?_eq_getElem (by omega)
    refine ⟨_, _, ?_, hys, h1.trans hys⟩
    rw [← Go.Deep.add_add, hcell, hv]
theorem array5 {α : Type} {cs : Array α} (h : cs.size = 5) : ∃ a b c d e, cs = #[a, b, c, d, e] := by
  obtain ⟨l⟩ := cs
  match l, h with
  | [a, b, c, d, e], _ => exact ⟨a, b, c, d, e, rfl⟩
theorem open_agg5 {r : Reach} {b0 : Nat} {t : TypeId} {f0 f1 f2 f3 f4 : Field} {v : Value} {d : DataW H} {p : List MemPlace} (hs : P.underlying t = some (.struct #[f0, f1, f2, f3, f4])) (hone : oneCellFields P #[f0, f1, f2, f3, f4] = true) (hC : P.cellsOf t = 5)
    (hv : Value.okWide P w r b0 t v) (h : DataW.Trod enc P w base spare held t v d p) :
    ∃ (v0 v1 v2 v3 v4 : Value) (y0 y1 y2 y3 y4 : DataW H × List MemPlace) (n : Nat), v = .agg #[v0, v1, v2, v3, v4] ∧
      DataW.trod enc P w base spare held n f0.type [v0] = some y0 ∧ DataW.trod enc P w base spare held n f1.type [v1] = some y1 ∧ DataW.trod enc P w base spare held n f2.type [v2] = some y2 ∧
      DataW.trod enc P w base spare held n f3.type [v3] = some y3 ∧ DataW.trod enc P w base spare held n f4.type [v4] = some y4 := by
  obtain ⟨cs, rfl, hsz⟩ := okWide_struct hs hv
  obtain ⟨c0, c1, c2, c3, c4, rfl⟩ := array5 (hsz.trans hC)
  obtain ⟨fuel, hf⟩ := h
  obtain ⟨ys, n, _, _, _, hyl, hf⟩ := DataW.trod_struct hs hf
  have hyl : ys.length = 5 := hyl
  obtain ⟨o0, k0⟩ := hone_of hone 0 f0 rfl
  obtain ⟨o1, k1⟩ := hone_of hone 1 f1 rfl
  obtain ⟨o2, k2⟩ := hone_of hone 2 f2 rfl
  obtain ⟨o3, k3⟩ := hone_of hone 3 f3 rfl
  obtain ⟨o4, k4⟩ := hone_of hone 4 f4 rfl
  have h0 := hf 0 f0 rfl
  have h1 := hf 1 f1 rfl
  have h2 := hf 2 f2 rfl
  have h3 := hf 3 f3 rfl
  have h4 := hf 4 f4 rfl
  rw [o0, k0] at h0
  rw [o1, k1] at h1
  rw [o2, k2] at h2
  rw [o3, k3] at h3
  rw [o4, k4] at h4
  exact ⟨c0, c1, c2, c3, c4, ys[0], ys[1], ys[2], ys[3], ys[4], n, rfl, h0.trans (List.getElem?_eq_getElem (by omega)), h1.trans (List.getElem?_eq_getElem (by omega)), h2.trans (List.getElem?_eq_getElem (by omega)),
    h3.trans (List.getElem?_eq_getElem (by omega)), h4.trans (List.getElem?_eq_getElem (by omega))⟩
end
theorem listed_of {α : Type} {Q : Nat → α → Prop} : ∀ (n : Nat), (∀ i, i < n → ∃ m, Q i m) → ∃ l : List α, l.length = n ∧ ∀ i m, l[i]? = some m → Q i m
  | 0, _ => ⟨[], rfl, fun i m h => by simp at h⟩
  | n + 1, h => by
    obtain ⟨l, hl, hq⟩ := listed_of n fun i hi => h i (by omega)
    obtain ⟨m, hm⟩ := h n (by omega)
    refine ⟨l ++ [m], by simp [hl], fun i x hx => ?_⟩
    by_cases hi : i < l.length
    · rw [List.getElem?_append_left hi] at hx; exact hq i x hx
    · rw [List.getElem?_append_right (by omega)] at hx
      have : i - l.length = 0 := by
        rcases Nat.eq_zero_or_pos (i - l.length) with h0 | h0
        · exact h0
        · rw [List.getElem?_eq_none (by simp; omega)] at hx; cases hx
      rw [this] at hx
      cases hx
      have : i = n := by omega
      rw [this]; exact hm
theorem size_mem {H : Type} {ys : List (DataW H × List MemPlace)} {j : Nat} {y : DataW H × List MemPlace} (h : ys[j]? = some y) : SizeOf.sizeOf y.1 < SizeOf.sizeOf (DataW.agg (ys.map (·.1))) := by
  have hm : y.1 ∈ ys.map (·.1) := List.mem_map_of_mem (List.mem_iff_getElem?.2 ⟨j, h⟩)
  have := List.sizeOf_lt_of_mem hm
  rw [DataW.agg.sizeOf_spec]
  omega
theorem size_elem {H : Type} {len : Nat} {D : Nat → DataW H} {r : List (DataW H)} {i : Nat} (h : i < len) : SizeOf.sizeOf (D i) < SizeOf.sizeOf (DataW.slice ((List.range len).map D) r) := by
  have hm : D i ∈ (List.range len).map D := List.mem_map_of_mem (List.mem_range.2 h)
  have := List.sizeOf_lt_of_mem hm
  rw [DataW.slice.sizeOf_spec]
  omega

theorem add_at (b off j : Nat) : (⟨b, off, none⟩ : Addr).add j = ⟨b, off + j, none⟩ := by cases j <;> simp [Addr.add]
theorem set_open {H : Type} {enc : TypeId × Value → H} {W : World} {n : Nat} {v : Value} {y : DataW H × List MemPlace} (t1 : DataW.trod enc Tryd.prog W 0 (fun _ => true) true n 22 [v] = some y) : ∃ l, SetIn W v l := by
  rcases open_slice_fields Tryd.underlying22 Tryd.underlying51 (by kernel_rfl) (by kernel_rfl) t1 with ⟨hcs, _⟩ | ⟨a, len, cap, m, D, Pl, hcs, _, hl, hm, hmm, _, hi⟩
  · simp only [List.cons.injEq, and_true] at hcs
    subst hcs
    exact ⟨[], none, 0, 0, rfl, rfl, Nat.le_refl _, ⟨Nat.zero_le _, fun _ => rfl⟩, .inl rfl⟩
  · simp only [List.cons.injEq, and_true] at hcs
    subst hcs
    obtain ⟨b, off, spot⟩ := a
    have hle : len ≤ m := by rw [hmm]; split <;> omega
    by_cases h0 : len = 0
    · exact ⟨[], _, len, cap, rfl, h0.symm, hl, ⟨hm, fun e => by cases e⟩, .inl h0⟩
    have hspot : spot = none := by
      obtain ⟨ys, n', _, _, _, hf⟩ := hi 0 (by omega)
      obtain ⟨u0, z0, k0, _, s0⟩ := hf 0 _ rfl
      simpa [Addr.add] using World.cell?_spot k0
    subst hspot
    have key : ∀ i, i < len → ∃ q : Int × Int, W.cell? ⟨b, off + i * 2, none⟩ = some (.int .i64 q.1) ∧ W.cell? ⟨b, off + i * 2 + 1, none⟩ = some (.int .i64 q.2) := by
      intro i hil
      obtain ⟨ys, n', _, _, _, hf⟩ := hi i (by omega)
      obtain ⟨u0, z0, k0, _, s0⟩ := hf 0 _ rfl
      obtain ⟨u1, z1, k1, _, s1⟩ := hf 1 _ rfl
      obtain ⟨x0, e0, _, _⟩ := DataW.trod_int Tryd.underlying3 s0
      obtain ⟨x1, e1, _, _⟩ := DataW.trod_int Tryd.underlying3 s1
      simp only [List.cons.injEq, and_true] at e0 e1
      subst e0 e1
      refine ⟨⟨x0, x1⟩, ?_, ?_⟩
      · have h := k0; rw [add_at] at h; exact h
      · have h := k1; rw [add_at] at h; exact h
    obtain ⟨l, hll, hq⟩ := listed_of len key
    obtain ⟨q0, hq0⟩ : ∃ q0, l[0]? = some q0 := ⟨_, List.getElem?_eq_getElem (by omega)⟩
    exact ⟨l, _, len, cap, rfl, hll, hl, ⟨hm, fun e => by cases e⟩, .inr ⟨b, off, rfl, World.block_lt_of_cell? _ _ (hq 0 q0 hq0).1, fun i m h => hq i m h⟩⟩
theorem key_parts {H : Type} {enc : TypeId × Value → H} {W : World} : ∀ (N : Nat) {n : Nat} {v0 v1 v2 v3 v4 : Value} {y0 y1 y2 y3 y4 : DataW H × List MemPlace}, SizeOf.sizeOf y4.1 < N →
    DataW.trod enc Tryd.prog W 0 (fun _ => true) true n 3 [v0] = some y0 → DataW.trod enc Tryd.prog W 0 (fun _ => true) true n 3 [v1] = some y1 → DataW.trod enc Tryd.prog W 0 (fun _ => true) true n 9 [v2] = some y2 →
    DataW.trod enc Tryd.prog W 0 (fun _ => true) true n 22 [v3] = some y3 → DataW.trod enc Tryd.prog W 0 (fun _ => true) true n 23 [v4] = some y4 → ∃ k, KeyIn W k (.agg #[v0, v1, v2, v3, v4]) := by
  intro N
  induction N with
  | zero => intro n v0 v1 v2 v3 v4 y0 y1 y2 y3 y4 h; omega
  | succ N ih =>
    intro n v0 v1 v2 v3 v4 y0 y1 y2 y3 y4 hN t0 t1 t2 t3 t4
    obtain ⟨x0, e0, _, _⟩ := DataW.trod_int Tryd.underlying3 t0
    obtain ⟨x1, e1, _, _⟩ := DataW.trod_int Tryd.underlying3 t1
    obtain ⟨x2, e2, _, hsz⟩ := DataW.trod_string Tryd.underlying9 t2
    simp only [List.cons.injEq, and_true] at e0 e1 e2
    subst e0 e1 e2
    obtain ⟨l, hset⟩ := set_open t3
    rcases open_slice_fields Tryd.underlying23 Tryd.underlying25 (by kernel_rfl) (by kernel_rfl) t4 with ⟨hcs, _⟩ | ⟨a, len, cap, m, D, Pl, hcs, _, hl, hm, hmm, hx, hi⟩
    · simp only [List.cons.injEq, and_true] at hcs
      subst hcs
      refine ⟨.mk x0 x1 x2 l [], ?_⟩
      rw [KeyIn]
      exact ⟨_, none, 0, 0, rfl, hsz, hset, rfl, Nat.le_refl _, ⟨Nat.zero_le _, fun _ => rfl⟩, .inl rfl⟩
    · simp only [List.cons.injEq, and_true] at hcs
      subst hcs
      obtain ⟨b, off, spot⟩ := a
      have hle : len ≤ m := by rw [hmm]; split <;> omega
      by_cases h0 : len = 0
      · refine ⟨.mk x0 x1 x2 l [], ?_⟩
        rw [KeyIn]
        exact ⟨_, _, len, cap, rfl, hsz, hset, h0.symm, hl, ⟨hm, fun e => by cases e⟩, .inl h0⟩
      have hspot : spot = none := by
        obtain ⟨ys, n', _, _, _, hf⟩ := hi 0 (by omega)
        obtain ⟨u0, z0, k0, _, s0⟩ := hf 0 _ rfl
        simpa [Addr.add] using World.cell?_spot k0
      subst hspot
      have key : ∀ i, i < len → ∃ q : K, ∃ c0 c1 c2 c3 c4, W.cell? ⟨b, off + i * 5, none⟩ = some c0 ∧ W.cell? ⟨b, off + i * 5 + 1, none⟩ = some c1 ∧ W.cell? ⟨b, off + i * 5 + 2, none⟩ = some c2 ∧ W.cell? ⟨b, off + i * 5 + 3, none⟩ = some c3 ∧ W.cell? ⟨b, off + i * 5 + 4, none⟩ = some c4 ∧
          KeyIn W q (.agg #[c0, c1, c2, c3, c4]) := by
        intro i hil
        obtain ⟨ys, n', hD, _, _, hf⟩ := hi i (by omega)
        obtain ⟨u0, z0, k0, _, s0⟩ := hf 0 _ rfl
        obtain ⟨u1, z1, k1, _, s1⟩ := hf 1 _ rfl
        obtain ⟨u2, z2, k2, _, s2⟩ := hf 2 _ rfl
        obtain ⟨u3, z3, k3, _, s3⟩ := hf 3 _ rfl
        obtain ⟨u4, z4, k4, g4, s4⟩ := hf 4 _ rfl
        have hz : SizeOf.sizeOf z4.1 < N := by
          have q1 := size_mem g4
          rw [← hD] at q1
          have q2 := size_elem (D := D) (r := (List.range (m - len)).map fun j => D (len + j)) hil
          rw [hx] at hN
          have hN : SizeOf.sizeOf (DataW.slice ((List.range len).map D) ((List.range (m - len)).map fun j => D (len + j))) < N + 1 := hN
          omega
        obtain ⟨q, hq⟩ := ih hz s0 s1 s2 s3 s4
        refine ⟨q, u0, u1, u2, u3, u4, ?_, ?_, ?_, ?_, ?_, hq⟩
        · have h := k0; rw [add_at] at h; exact h
        · have h := k1; rw [add_at] at h; exact h
        · have h := k2; rw [add_at] at h; exact h
        · have h := k3; rw [add_at] at h; exact h
        · have h := k4; rw [add_at] at h; exact h
      obtain ⟨ks, hll, hq⟩ := listed_of len key
      refine ⟨.mk x0 x1 x2 l ks, ?_⟩
      rw [KeyIn]
      obtain ⟨q0, hq0⟩ : ∃ q0, ks[0]? = some q0 := ⟨_, List.getElem?_eq_getElem (by omega)⟩
      obtain ⟨c0, _, _, _, _, hc0, _⟩ := hq 0 q0 hq0
      exact ⟨_, _, len, cap, rfl, hsz, hset, hll, hl, ⟨hm, fun e => by cases e⟩, .inr ⟨b, off, rfl, World.block_lt_of_cell? _ _ hc0, fun i h => hq i _ (List.getElem?_eq_getElem h)⟩⟩
theorem key_open {H : Type} {enc : TypeId × Value → H} {W : World} {base : Nat} {v : Value} {d : DataW H} {p : List MemPlace} (hv : Value.okWide Tryd.prog W .any base 25 v)
    (h : DataW.Trod enc Tryd.prog W 0 (fun _ => true) true 25 v d p) : ∃ k, KeyIn W k v := by
  obtain ⟨v0, v1, v2, v3, v4, y0, y1, y2, y3, y4, n, rfl, t0, t1, t2, t3, t4⟩ := open_agg5 Tryd.underlying25 (by kernel_rfl) (by kernel_rfl) hv h
  exact key_parts _ (Nat.lt_succ_self _) t0 t1 t2 t3 t4
end Go.Proofs.YtgcdopmidmelfaaDoor

/- THE FRAME of the exact laws: what an argument that is a mailbox, or a row of numbers, gives the walk. -/
import Derived.Test.YtpahgjideppmoaaFrame
import Derived.Test.YtpahgjideppmoaaExEq
import Derived.Lib.SmallJoins
import Derived.Deep.Slices
import Derived.Deep.Fields
import Derived.ChangeSame
namespace Go.Proofs.Ytpahgjideppmoaa
open Go.ChangeShapes Go.WideShapes Go.ChangeAt Go.RowKit Go.Joins Go.Deep
set_option linter.unusedVariables false

section
variable {H : Type} {enc : TypeId × Value → H} {P : Program} {w : World} {base : Nat} {spare : Nat → Bool} {held : Bool}
theorem open_slice_fields {t e : TypeId} {fs : Array Field} {fuel : Nat} {cs : List Value} {x : DataW H × List MemPlace} (ht : P.underlying t = some (.slice e)) (he : P.underlying e = some (.struct fs))
    (hone : oneCellFields P fs = true) (hC : P.cellsOf e = fs.size) (h : DataW.trod enc P w base spare held fuel t cs = some x) :
    (cs = [.slice none 0 0] ∧ x = (.nil, [])) ∨
    ∃ (a : Addr) (len cap m : Nat) (D : Nat → DataW H) (Pl : Nat → List MemPlace), cs = [.slice (some a) len cap] ∧ base ≤ a.block ∧ len ≤ cap ∧ cap ≤ maxLen ∧ m = (if spare a.block then cap else len) ∧
      x = (.slice ((List.range len).map D) ((List.range (m - len)).map fun j => D (len + j)), MemPlace.row a (m * fs.size) ++ (List.range m).flatMap Pl) ∧
      ∀ i, i < m → ∃ (ys : List (DataW H × List MemPlace)) (n : Nat), D i = .agg (ys.map (·.1)) ∧ Pl i = ys.flatMap (·.2) ∧ ys.length = fs.size ∧
        ∀ (j : Nat) (f : Field), fs[j]? = some f → ∃ (v : Value) (y : DataW H × List MemPlace), w.cell? (a.add (i * fs.size + j)) = some v ∧ ys[j]? = some y ∧ DataW.trod enc P w base spare held n f.type [v] = some y := by
  rcases open_slice ht h with h0 | ⟨a, len, cap, m, n, D, Pl, hcs, hb, hl, hm, hmm, hx, hi⟩
  · exact .inl h0
  · refine .inr ⟨a, len, cap, m, D, Pl, hcs, hb, hl, hm, hmm, by rw [hC] at hx; exact hx, fun i him => ?_⟩
    obtain ⟨cs', hc, ht'⟩ := hi i him
    rw [hC] at hc
    obtain ⟨ys, n', hn', hy, hlen, hyl, hf⟩ := DataW.trod_struct he ht'
    obtain ⟨_, hcl, hat⟩ := World.cells?_some hc
    simp only [Prod.mk.injEq] at hy
    refine ⟨ys, n', hy.1, hy.2, hyl, fun j f hj => ?_⟩
    obtain ⟨ho, hk⟩ := hone_of hone j f hj
    have hjl : j < fs.size := (Array.getElem?_eq_some_iff.1 hj).1
    have hcell := hat j hjl
    have hv : cs'[j]? = some (cs'[j]'(by omega)) := List.getElem?_eq_getElem (by omega)
    have h1 := hf j f hj
    rw [ho, hk] at h1
    have hone' : (cs'.drop j).take 1 = [cs'[j]'(by omega)] := by
      rw [List.drop_eq_getElem_cons (by omega)]
      rfl
    rw [hone'] at h1
    have hys : ys[j]? = some (ys[j]'(by omega)) := List.getElem?_eq_getElem (by omega)
    refine ⟨_, _, ?_, hys, h1.trans hys⟩
    rw [← Go.Deep.add_add, hcell, hv]
end
theorem listed_of {α : Type} {Q : Nat → α → Prop} : ∀ (n : Nat), (∀ i, i < n → ∃ m, Q i m) → ∃ l : List α, l.length = n ∧ ∀ i m, l[i]? = some m → Q i m
  | 0, _ => ⟨[], rfl, fun i m h => by simp at h⟩
  | n + 1, h => by
    obtain ⟨l, hl, hq⟩ := listed_of n fun i hi => h i (by omega)
    obtain ⟨m, hm⟩ := h n (by omega)
    refine ⟨l ++ [m], by simp [hl], fun i x hx => ?_⟩
    by_cases hi : i < l.length
    · rw [List.getElem?_append_left hi] at hx; exact hq i x hx
    · rw [List.getElem?_append_right (by omega)] at hx
      have : i - l.length = 0 := by
        rcases Nat.eq_zero_or_pos (i - l.length) with h0 | h0
        · exact h0
        · rw [List.getElem?_eq_none (by simp; omega)] at hx; cases hx
      rw [this] at hx
      cases hx
      have : i = n := by omega
      rw [this]; exact hm
/-- A row of messages that came in. -/
def MailIn (w : World) (a : Option Addr) (len cap : Nat) (l : List M) : Prop :=
  l.length = len ∧ (a = none → cap = 0) ∧ (∀ m ∈ l, m.text.size ≤ maxLen) ∧ (len = 0 ∨ ∃ b off, a = some ⟨b, off, none⟩ ∧ b < w.heap.size ∧
    ∀ i m, l[i]? = some m → w.cell? ⟨b, off + i * 3, none⟩ = some (.int .i64 m.uid) ∧ w.cell? ⟨b, off + i * 3 + 1, none⟩ = some (.int .i64 m.flags) ∧ w.cell? ⟨b, off + i * 3 + 2, none⟩ = some (.string m.text))
theorem MailIn.at {w : World} {a : Option Addr} {len cap : Nat} {l : List M} (h : MailIn w a len cap l) (hc : len ≤ cap) (hl : len ≤ 4398046511104) : MailAt w (.slice a len cap) l :=
  ⟨a, len, cap, rfl, h.1, hc, ⟨hl, h.2.1⟩, h.2.2.2⟩
/-- A row of numbers that came in. -/
def IntsIn (w : World) (a : Option Addr) (len cap : Nat) (l : List Int) : Prop :=
  l.length = len ∧ (a = none → cap = 0) ∧ (len = 0 ∨ ∃ b off, a = some ⟨b, off, none⟩ ∧ b < w.heap.size ∧ ∀ i x, l[i]? = some x → w.cell? ⟨b, off + i, none⟩ = some (.int .i64 x))
theorem IntsIn.at {w : World} {a : Option Addr} {len cap : Nat} {l : List Int} (h : IntsIn w a len cap l) (hc : len ≤ cap) (hl : len ≤ 4398046511104) : IntsAt w (.slice a len cap) l :=
  ⟨a, len, cap, rfl, h.1, hc, ⟨hl, h.2.1⟩, h.2.2⟩

theorem box_open {H : Type} {enc : TypeId × Value → H} {W : World} {base : Nat} {v : Value} {d : DataW H} {p : List MemPlace} (hv : Value.okWide Try.prog W .any base 24 v)
    (h : DataW.Trod enc Try.prog W 0 (fun _ => true) true 24 v d p) : ∃ (x : Int) (a : Option Addr) (len cap : Nat) (l : List M), v = .agg #[.int .i64 x, .slice a len cap] ∧ len ≤ cap ∧ cap ≤ maxLen ∧ MailIn W a len cap l := by
  obtain ⟨v0, v1, y0, y1, n, rfl, _, _, t0, t1⟩ := open_agg2 Try.underlying24 (by kernel_rfl) (by kernel_rfl) hv h
  obtain ⟨x, hx, _, _⟩ := DataW.trod_int Try.underlying3 t0
  simp only [List.cons.injEq, and_true] at hx
  subst hx
  rcases open_slice_fields Try.underlying22 Try.underlying59 (by kernel_rfl) (by kernel_rfl) t1 with ⟨hcs, _⟩ | ⟨a, len, cap, m, D, Pl, hcs, _, hl, hm, hmm, _, hi⟩
  · simp only [List.cons.injEq, and_true] at hcs
    subst hcs
    exact ⟨x, none, 0, 0, [], rfl, Nat.le_refl _, Nat.zero_le _, rfl, (fun _ => rfl), (fun m h => by cases h), .inl rfl⟩
  · simp only [List.cons.injEq, and_true] at hcs
    subst hcs
    obtain ⟨b, off, spot⟩ := a
    have hle : len ≤ m := by rw [hmm]; split <;> omega
    by_cases h0 : len = 0
    · exact ⟨x, _, len, cap, [], rfl, hl, hm, h0.symm, (fun e => by cases e), (fun m h => by cases h), .inl h0⟩
    have hspot : spot = none := by
      obtain ⟨ys, n', _, _, _, hf⟩ := hi 0 (by omega)
      obtain ⟨u0, z0, k0, _, s0⟩ := hf 0 _ rfl
      simpa [Addr.add] using World.cell?_spot k0
    subst hspot
    have key : ∀ i, i < len → ∃ q : M, (q.text.size ≤ maxLen) ∧ W.cell? ⟨b, off + i * 3, none⟩ = some (.int .i64 q.uid) ∧ W.cell? ⟨b, off + i * 3 + 1, none⟩ = some (.int .i64 q.flags) ∧ W.cell? ⟨b, off + i * 3 + 2, none⟩ = some (.string q.text) := by
      intro i hil
      obtain ⟨ys, n', _, _, _, hf⟩ := hi i (by omega)
      obtain ⟨u0, z0, k0, _, s0⟩ := hf 0 _ rfl
      obtain ⟨u1, z1, k1, _, s1⟩ := hf 1 _ rfl
      obtain ⟨u2, z2, k2, _, s2⟩ := hf 2 _ rfl
      obtain ⟨x0, e0, _, _⟩ := DataW.trod_int Try.underlying3 s0
      obtain ⟨x1, e1, _, _⟩ := DataW.trod_int Try.underlying3 s1
      obtain ⟨x2, e2, _, hsz⟩ := DataW.trod_string Try.underlying9 s2
      simp only [List.cons.injEq, and_true] at e0 e1 e2
      subst e0 e1 e2
      refine ⟨⟨x0, x1, x2⟩, hsz, ?_, ?_, ?_⟩
      · have h := k0; rw [add_at] at h; exact h
      · have h := k1; rw [add_at] at h; exact h
      · have h := k2; rw [add_at] at h; exact h
    obtain ⟨l, hll, hq⟩ := listed_of len key
    refine ⟨x, _, len, cap, l, rfl, hl, hm, hll, (fun e => by cases e), fun q hq' => ?_, ?_⟩
    · obtain ⟨i, hi⟩ := List.mem_iff_getElem?.1 hq'
      exact (hq i q hi).1
    · obtain ⟨q0, hq0⟩ : ∃ q0, l[0]? = some q0 := ⟨_, List.getElem?_eq_getElem (by omega)⟩
      have hc0 := (hq 0 q0 hq0).2.1
      exact .inr ⟨b, off, rfl, World.block_lt_of_cell? _ _ hc0, fun i m h => (hq i m h).2⟩
theorem ints_open {H : Type} {enc : TypeId × Value → H} {W : World} {base : Nat} {v : Value} {d : DataW H} {p : List MemPlace} (hv : Value.okWide Try.prog W .any base 25 v)
    (h : DataW.Trod enc Try.prog W 0 (fun _ => true) true 25 v d p) : ∃ (a : Option Addr) (len cap : Nat) (l : List Int), v = .slice a len cap ∧ len ≤ cap ∧ cap ≤ maxLen ∧ IntsIn W a len cap l := by
  obtain ⟨a, len, cap, rfl⟩ := okWide_slice Try.underlying25 hv
  obtain ⟨fuel, hf⟩ := h
  rcases open_ints Try.underlying25 Try.underlying3 (by kernel_rfl) hf with ⟨hcs, _⟩ | ⟨x, l, c, zs, hcs, _, hl, hm, hz, _, hcell, _⟩
  · simp [Value.cells] at hcs
    obtain ⟨rfl, rfl, rfl⟩ := hcs
    exact ⟨none, 0, 0, [], rfl, Nat.le_refl _, Nat.zero_le _, rfl, fun _ => rfl, .inl rfl⟩
  · simp [Value.cells] at hcs
    obtain ⟨rfl, rfl, rfl⟩ := hcs
    have hz' : zs.length = cap := by simpa using hz
    refine ⟨_, len, cap, zs.take len, rfl, hl, hm, by rw [List.length_take]; omega, (fun e => by cases e), ?_⟩
    by_cases h0 : len = 0
    · exact .inl h0
    · obtain ⟨b, off, spot⟩ := x
      have hc0 := hcell 0 (by omega)
      have hspot : spot = none := by simpa [Addr.add] using World.cell?_spot hc0
      subst hspot
      refine .inr ⟨b, off, rfl, by simpa [Addr.add] using World.block_lt_of_cell? _ _ hc0, fun i y hy => ?_⟩
      have hi : i < len := by have := (List.getElem?_eq_some_iff.1 hy).1; rw [List.length_take] at this; omega
      rw [List.getElem?_take_of_lt hi] at hy
      have hci := hcell i (by omega)
      rw [List.getD_eq_getElem?_getD, hy] at hci
      cases i with
      | zero => simpa [Addr.add] using hci
      | succ i => simpa [Addr.add] using hci
end Go.Proofs.Ytpahgjideppmoaa

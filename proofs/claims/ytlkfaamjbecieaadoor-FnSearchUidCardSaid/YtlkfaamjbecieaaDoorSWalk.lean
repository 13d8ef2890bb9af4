/- WALKS of the laws of a search: what is known behind the draw. -/
import Derived.Test.YtlkfaamjbecieaaDoorSDraw
namespace Go.Proofs.YtlkfaamjbecieaaDoor
open Go.RowKit
set_option linter.unusedVariables false

/-- The table of names and the library's number lie where they were laid. -/
def Sees (w : World) : Prop := Names w ∧ MaxInt w
/-- What is known of a drawn mailbox and a key in a law: in their variables, in memory. -/
structure SL (w : World) (S : Nat → Prop) (b : B) (k : K) (bc kc : Array Value) (xb kb : Nat) (v : World) : Prop where
  bat : BoxAt v (.agg bc) b
  kat : KeyAt v S k (.agg kc)
  ins : Ins S v
  box : v.heap[xb]? = some (.cells bc 25 (0, 0))
  key : v.heap[kb]? = some (.cells kc 29 (0, 0))
  nam : Names v
  mi : MaxInt v
  bel : Below w.heap.size w v
  lo : w.heap.size ≤ xb
theorem SL.below {w v v' : World} {S : Nat → Prop} {b : B} {k : K} {bc kc : Array Value} {xb kb : Nat} (h : SL w S b k bc kc xb kb v) (q : Below v.heap.size v v') : SL w S b k bc kc xb kb v' :=
  ⟨h.bat.below q, h.kat.below h.ins q, h.ins.below q, (q.block _ (lt_of_block h.box)).trans h.box, (q.block _ (lt_of_block h.key)).trans h.key, h.nam.below q, h.mi.below q, h.bel.trans (q.mono h.bel.size), h.lo⟩
theorem SL.drewN {w v : World} {S : Nat → Prop} {b : B} {k : K} {bc kc : Array Value} {xb kb : Nat} (h : SL w S b k bc kc xb kb v) (n : Nat) : SL w S b k bc kc xb kb (v.drewN n) := h.below (below_drewN (Below.refl _ _) n)
theorem IntsAt.drewN {w : World} {v : Value} {l : List Int} (h : IntsAt w v l) (n : Nat) : IntsAt (w.drewN n) v l := h.below (below_drewN (Below.refl _ _) n)
theorem SL.cells2 {w v : World} {S : Nat → Prop} {b : B} {k : K} {x y : Value} {kc : Array Value} {xb kb : Nat} (h : SL w S b k #[x, y] kc xb kb v) : v.cell? ⟨xb, 0, none⟩ = some x ∧ v.cell? ⟨xb, 1, none⟩ = some y := by
  obtain ⟨c0, c1, _, _⟩ := two_cells h.box
  exact ⟨c0, c1⟩
theorem SL.cells5 {w v : World} {S : Nat → Prop} {b : B} {k : K} {x0 x1 x2 x3 x4 : Value} {bc : Array Value} {xb kb : Nat} (h : SL w S b k bc #[x0, x1, x2, x3, x4] xb kb v) : v.cell? ⟨kb, 0, none⟩ = some x0 ∧ v.cell? ⟨kb, 1, none⟩ = some x1 ∧ v.cell? ⟨kb, 2, none⟩ = some x2 ∧ v.cell? ⟨kb, 3, none⟩ = some x3 ∧ v.cell? ⟨kb, 4, none⟩ = some x4 := by
  obtain ⟨c0, c1, c2, c3, c4, _⟩ := five_cells h.key
  exact ⟨c0, c1, c2, c3, c4⟩
theorem SL.set {w v : World} {S : Nat → Prop} {b : B} {k : K} {x0 x1 x2 x3 x4 : Value} {bc : Array Value} {xb kb : Nat} (h : SL w S b k bc #[x0, x1, x2, x3, x4] xb kb v) : SetAt v S x3 k.set := by
  have hk := h.kat
  rw [KeyAt] at hk
  obtain ⟨sv, a, n, cap, hv, hs, _⟩ := hk
  simp only [Value.agg.injEq, Array.mk.injEq, List.cons.injEq, and_true] at hv
  obtain ⟨_, _, _, rfl, _⟩ := hv
  exact hs
/-- The messages' cells. -/
theorem BoxAt.msg {w : World} {x : Int} {ab : Option Addr} {L cp : Nat} {b : B} (h : BoxAt w (.agg #[.int .i64 x, .slice ab L cp]) b) (n : Nat) (m : M) (hm : b.mail[n]? = some m) :
    ∃ gm off, ab = some ⟨gm, off, none⟩ ∧ w.cell? ⟨gm, off + n * 3, none⟩ = some (.int .i64 m.uid) ∧ w.cell? ⟨gm, off + n * 3 + 1, none⟩ = some (.int .i64 m.flags) ∧ w.cell? ⟨gm, off + n * 3 + 2, none⟩ = some (.string m.text) := by
  obtain ⟨s, hv, a, N, cap, hs, hl, _, _, hc⟩ := h
  simp only [Value.agg.injEq, Array.mk.injEq, List.cons.injEq, and_true] at hv
  obtain ⟨_, rfl⟩ := hv
  simp only [Value.slice.injEq] at hs
  obtain ⟨rfl, rfl, rfl⟩ := hs
  have hn := (List.getElem?_eq_some_iff.1 hm).1
  rcases hc with h0 | ⟨gm, off, rfl, _, hc⟩
  · omega
  · exact ⟨gm, off, rfl, hc n m hm⟩
theorem IntsAt.at0 {w : World} {g n cap : Nat} {l : List Int} (h : IntsAt w (.slice (some ⟨g, 0, none⟩) n cap) l) (i : Nat) (x : Int) (hx : l[i]? = some x) : w.cell? ⟨g, i, none⟩ = some (.int .i64 x) := by
  obtain ⟨a, n', c', hv, hl, _, _, hc⟩ := h
  simp only [Value.slice.injEq] at hv
  obtain ⟨rfl, rfl, rfl⟩ := hv
  have hn := (List.getElem?_eq_some_iff.1 hx).1
  rcases hc with h0 | ⟨g', off, he, _, hc⟩
  · omega
  simp only [Option.some.injEq, Addr.mk.injEq] at he
  obtain ⟨rfl, rfl, _⟩ := he
  have := hc i x hx
  rwa [Nat.zero_add] at this
theorem hasInt_at (l : List Int) (x : Int) (r : Bool) (v : Value) (w : World) (h : IntsAt w v l) (hr : hasB l x = r) :
    Calls Tryd.prog 19 #[v, .int .i64 x] w fun e w' => e = .returned (.bool r) ∧ w' = w := by
  subst hr; exact (hasInt_any l x v w h).mono fun _ _ h => ⟨h.1, h.2.symm⟩
theorem lawContains_at (s p : ByteArray) (r : Bool) (w : World) (hs : s.size ≤ 1000000000) (hp : p.size ≤ 1000000000) (hr : partAt s.data.toList p.data.toList = r) :
    Calls Tryd.prog 20 #[.string s, .string p] w fun e w' => e = .returned (.bool r) ∧ w' = w := by
  subst hr; exact (lawContains_any s p w hs hp).mono fun _ _ h => ⟨h.1, h.2.symm⟩
theorem flagsHave_at (f o : Int) (r : Bool) (w : World) (hr : haveB f o = r) :
    Calls Tryd.prog 26 #[.int .i64 f, .int .i64 o] w fun e w' => e = .returned (.bool r) ∧ w' = w := by
  subst hr; exact (implFlagsHave_any f o w).mono fun _ _ h => ⟨h.1, h.2.symm⟩
/-- A key without others, as a value. -/
theorem leafAt (w : World) (S : Nat → Prop) (n f : Int) (t : ByteArray) : KeyAt w S (.mk n f t [] []) (.agg #[.int .i64 n, .int .i64 f, .string t, .slice none 0 0, .slice none 0 0]) := KeyAt.leaf SetAt.none
end Go.Proofs.YtlkfaamjbecieaaDoor

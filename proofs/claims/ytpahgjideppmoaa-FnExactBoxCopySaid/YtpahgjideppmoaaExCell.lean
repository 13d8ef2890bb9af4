/- WHAT THE EXACT LAWS HOLD IN MEMORY: the argument, mailboxes in variables, rows of numbers; how a marking of one of them leaves the others. -/
import Derived.Test.YtpahgjideppmoaaExMarkI
import Derived.Test.YtpahgjideppmoaaExFrame
import Derived.Test.YtpahgjideppmoaaBlk
namespace Go.Proofs.Ytpahgjideppmoaa
open Go.RowKit
set_option linter.unusedVariables false

/-- The row of a slice lies below a block. -/
def UpTo (v : Value) (top : Nat) : Prop := ∀ j, v.ownBlock = some j → j < top
/-- The argument in its variable. -/
structure AC (w : World) (N k : Nat) (b : B) (a : Option Addr) (cap : Nat) : Prop where
  block : w.heap[k]? = some (.cells #[.int .i64 b.next, .slice a b.mail.length cap] 24 (0, 0))
  caps : b.mail.length ≤ cap ∧ (b.mail.length ≤ 4398046511104 ∧ (a = none → cap = 0))
  mail : b.mail.length = 0 ∨ ∃ g off, a = some ⟨g, off, none⟩ ∧ g < N ∧ ∀ i m, b.mail[i]? = some m → w.cell? ⟨g, off + i * 3, none⟩ = some (.int .i64 m.uid) ∧ w.cell? ⟨g, off + i * 3 + 1, none⟩ = some (.int .i64 m.flags) ∧ w.cell? ⟨g, off + i * 3 + 2, none⟩ = some (.string m.text)
  low : N ≤ w.heap.size
theorem AC.kept {w w' : World} {N k : Nat} {b : B} {a : Option Addr} {cap : Nat} (h : AC w N k b a cap) (hk : w'.heap[k]? = w.heap[k]?) (hN : ∀ j, j < N → w'.heap[j]? = w.heap[j]?) (hs : w.heap.size ≤ w'.heap.size) : AC w' N k b a cap := by
  refine ⟨hk.trans h.block, h.caps, ?_, Nat.le_trans h.low hs⟩
  rcases h.mail with h0 | ⟨g, off, ha, hg, hc⟩
  · exact .inl h0
  · exact .inr ⟨g, off, ha, hg, fun i m hi => ⟨(World.cell?_of_block (w := w) (hN g hg)).trans (hc i m hi).1, (World.cell?_of_block (w := w) (hN g hg)).trans (hc i m hi).2.1, (World.cell?_of_block (w := w) (hN g hg)).trans (hc i m hi).2.2⟩⟩
theorem AC.below {w w' : World} {N k : Nat} {b : B} {a : Option Addr} {cap : Nat} (h : AC w N k b a cap) (hb : Below w.heap.size w w') : AC w' N k b a cap :=
  h.kept (hb.block _ (lt_of_block h.block)) (fun j hj => hb.block j (Nat.lt_of_lt_of_le hj h.low)) hb.size
theorem AC.cells {w : World} {N k : Nat} {b : B} {a : Option Addr} {cap : Nat} (h : AC w N k b a cap) :
    w.cell? ⟨k, 0, none⟩ = some (.int .i64 b.next) ∧ w.cell? ⟨k, 1, none⟩ = some (.slice a b.mail.length cap) ∧ w.frozen? ⟨k, 0, none⟩ = false ∧ w.frozen? ⟨k, 1, none⟩ = false := two_cells h.block
theorem AC.lt {w : World} {N k : Nat} {b : B} {a : Option Addr} {cap : Nat} (h : AC w N k b a cap) : k < w.heap.size := lt_of_block h.block
theorem AC.box {w : World} {N k : Nat} {b : B} {a : Option Addr} {cap : Nat} (h : AC w N k b a cap) : BoxAt w (.agg #[.int .i64 b.next, .slice a b.mail.length cap]) b := by
  refine ⟨_, rfl, a, b.mail.length, cap, rfl, rfl, h.caps.1, h.caps.2, ?_⟩
  rcases h.mail with h0 | ⟨g, off, ha, hg, hc⟩
  · exact .inl h0
  · exact .inr ⟨g, off, ha, Nat.lt_of_lt_of_le hg h.low, hc⟩
/-- A row of one type is written: a block of another type stays. -/
theorem block_stays {w w' : World} {k base e size n : Nat} {v : Value} {xs : List Value} {cs : Array Value} {t : TypeId} {fz : Nat × Nat} (hh : w.heap[k]? = some (.cells cs t fz)) (ht : t ≠ e)
    (hown : w.ownsRow base e size v n xs) (hg : w.grownBy w' v.ownBlock) : w'.heap[k]? = w.heap[k]? := (block_kept hh ht hown hg).trans hh.symm
theorem own_low {w w' : World} {base e size n j : Nat} {v : Value} {xs : List Value} (hown : w.ownsRow base e size v n xs) (hg : w.grownBy w' v.ownBlock) (hj : j < base) (hs : j < w.heap.size) : w'.heap[j]? = w.heap[j]? :=
  hg.block j hs fun h => by have := (hown.lt j h.symm).1; omega
theorem AC.mark {w w' : World} {N k : Nat} {b : B} {a : Option Addr} {cap : Nat} (h : AC w N k b a cap) {base e size n : Nat} {v : Value} {xs : List Value} (hown : w.ownsRow base e size v n xs) (ht : 24 ≠ e) (hb : N ≤ base) (hg : w.grownBy w' v.ownBlock) : AC w' N k b a cap :=
  h.kept (block_stays h.block ht hown hg) (fun j hj => own_low hown hg (by omega) (Nat.lt_of_lt_of_le hj h.low)) hg.size

/-- An argument that is a row of numbers. -/
structure AI (w : World) (N : Nat) (l : List Int) (a : Option Addr) (cap : Nat) : Prop where
  caps : l.length ≤ cap ∧ (l.length ≤ 4398046511104 ∧ (a = none → cap = 0))
  cells : l.length = 0 ∨ ∃ g off, a = some ⟨g, off, none⟩ ∧ g < N ∧ ∀ i x, l[i]? = some x → w.cell? ⟨g, off + i, none⟩ = some (.int .i64 x)
  low : N ≤ w.heap.size
theorem AI.kept {w w' : World} {N : Nat} {l : List Int} {a : Option Addr} {cap : Nat} (h : AI w N l a cap) (hN : ∀ j, j < N → w'.heap[j]? = w.heap[j]?) (hs : w.heap.size ≤ w'.heap.size) : AI w' N l a cap := by
  refine ⟨h.caps, ?_, Nat.le_trans h.low hs⟩
  rcases h.cells with h0 | ⟨g, off, ha, hg, hc⟩
  · exact .inl h0
  · exact .inr ⟨g, off, ha, hg, fun i m hi => (World.cell?_of_block (w := w) (hN g hg)).trans (hc i m hi)⟩
theorem AI.below {w w' : World} {N : Nat} {l : List Int} {a : Option Addr} {cap : Nat} (h : AI w N l a cap) (hb : Below w.heap.size w w') : AI w' N l a cap :=
  h.kept (fun j hj => hb.block j (Nat.lt_of_lt_of_le hj h.low)) hb.size
theorem AI.mark {w w' : World} {N : Nat} {l : List Int} {a : Option Addr} {cap : Nat} (h : AI w N l a cap) {base e size n : Nat} {v : Value} {xs : List Value} (hown : w.ownsRow base e size v n xs) (hb : N ≤ base) (hg : w.grownBy w' v.ownBlock) : AI w' N l a cap :=
  h.kept (fun j hj => own_low hown hg (by omega) (Nat.lt_of_lt_of_le hj h.low)) hg.size
theorem AI.at {w : World} {N : Nat} {l : List Int} {a : Option Addr} {cap : Nat} (h : AI w N l a cap) : IntsAt w (.slice a l.length cap) l := by
  refine ⟨a, l.length, cap, rfl, rfl, h.caps.1, h.caps.2, ?_⟩
  rcases h.cells with h0 | ⟨g, off, ha, hg, hc⟩
  · exact .inl h0
  · exact .inr ⟨g, off, ha, Nat.lt_of_lt_of_le hg h.low, hc⟩
theorem AI.new {w w1 : World} {l : List Int} {a : Option Addr} {len cap : Nat} (h : IntsIn w a len cap l) (hc : len ≤ cap) (hl : len ≤ 4398046511104) (hb : Below w.heap.size w w1) : AI w1 w.heap.size l a cap := by
  obtain ⟨h1, h2, h3⟩ := h
  subst h1
  refine ⟨⟨hc, hl, h2⟩, ?_, hb.size⟩
  rcases h3 with h0 | ⟨g, off, ha, hg, hcc⟩
  · exact .inl h0
  · exact .inr ⟨g, off, ha, hg, fun i x hi => (hb.cell (p := ⟨g, _, none⟩) hg).trans (hcc i x hi)⟩

/-- A mailbox in a variable; its row lies between two marks. -/
structure BC (w : World) (k base top : Nat) (b : B) (a : Option Addr) (cap : Nat) : Prop where
  cell : BoxCell w k base b a cap
  up : UpTo (.slice a b.mail.length cap) top
  top : top ≤ w.heap.size
theorem BC.below {w w' : World} {k base top : Nat} {b : B} {a : Option Addr} {cap : Nat} (h : BC w k base top b a cap) (hb : Below w.heap.size w w') : BC w' k base top b a cap := ⟨h.cell.below hb, h.up, Nat.le_trans h.top hb.size⟩
theorem BC.cells {w : World} {k base top : Nat} {b : B} {a : Option Addr} {cap : Nat} (h : BC w k base top b a cap) :
    w.cell? ⟨k, 0, none⟩ = some (.int .i64 b.next) ∧ w.cell? ⟨k, 1, none⟩ = some (.slice a b.mail.length cap) ∧ w.frozen? ⟨k, 0, none⟩ = false ∧ w.frozen? ⟨k, 1, none⟩ = false := two_cells h.cell.block
theorem BC.lt {w : World} {k base top : Nat} {b : B} {a : Option Addr} {cap : Nat} (h : BC w k base top b a cap) : k < w.heap.size := h.cell.lt
theorem BC.box {w : World} {k base top : Nat} {b : B} {a : Option Addr} {cap : Nat} (h : BC w k base top b a cap) : BoxAt w (.agg #[.int .i64 b.next, .slice a b.mail.length cap]) b := h.cell.box
theorem own_up {w : World} {base : Nat} {v : Value} {l : List M} (h : Own w base v l) : UpTo v w.heap.size := fun j hj => (World.ownsRow.lt h j hj).2
theorem new_bc {w : World} {base : Nat} {b : B} {a : Option Addr} {cap : Nat} (h : Own w base (.slice a b.mail.length cap) b.mail) (hl : b.mail.length ≤ 4398046511104) :
    ∃ wy, wy = w.alloc (.cells #[.int .i64 b.next, .slice a b.mail.length cap] 29) ∧ BC wy w.heap.size base w.heap.size b a cap ∧ Below w.heap.size w wy ∧ wy.heap.size = w.heap.size + 1 := by
  obtain ⟨wy, h1, h2, h3, h4⟩ := new_box h hl
  exact ⟨wy, h1, ⟨h2, own_up h, by omega⟩, h3, h4⟩
theorem bc_alloc {W : World} {base : Nat} {b : B} {a : Option Addr} {cap : Nat} (h : Own W base (.slice a b.mail.length cap) b.mail) (hl : b.mail.length ≤ 4398046511104) :
    BC (W.alloc (.cells #[.int .i64 b.next, .slice a b.mail.length cap] 29)) W.heap.size base W.heap.size b a cap := ⟨box_alloc h hl, own_up h, by simp⟩
theorem bc_store {W : World} {p base : Nat} {b : B} {a : Option Addr} {cap : Nat} {x y : Value} (z : W.heap[p]? = some (.cells #[x, y] 29 (0, 0))) (h : Own W base (.slice a b.mail.length cap) b.mail) (hl : b.mail.length ≤ 4398046511104) :
    BC ((W.setCell ⟨p, 0, none⟩ (.int .i64 b.next)).setCell ⟨p, 1, none⟩ (.slice a b.mail.length cap)) p base W.heap.size b a cap := ⟨box_store z h hl, own_up h, by simp [World.setCell]⟩
/-- Another row is written. -/
theorem BC.mark {w w' : World} {k base top : Nat} {b : B} {a : Option Addr} {cap : Nat} (h : BC w k base top b a cap) {base2 top2 : Nat} {v : Value} {l : List M} (o : Own w base2 v l) (u : UpTo v top2) (hd : top ≤ base2 ∨ top2 ≤ base) (hg : w.grownBy w' v.ownBlock) : BC w' k base top b a cap := by
  refine ⟨⟨block_kept h.cell.block (by decide) o hg, World.ownsRow.kept h.cell.own hg ?_, h.cell.len⟩, h.up, Nat.le_trans h.top hg.size⟩
  rcases hv : (Value.slice a b.mail.length cap).ownBlock with _ | j
  · exact .inl rfl
  · right
    intro e
    have h1 := h.up j hv
    have h2 := (World.ownsRow.lt h.cell.own j hv).1
    have h3 := (World.ownsRow.lt o j e.symm).1
    have h4 := u j e.symm
    omega
/-- A row of numbers is written. -/
theorem BC.markI {w w' : World} {k base top : Nat} {b : B} {a : Option Addr} {cap : Nat} (h : BC w k base top b a cap) {base2 : Nat} {v : Value} {l : List Int} (o : OwnInts w base2 v l) (hg : w.grownBy w' v.ownBlock) : BC w' k base top b a cap :=
  ⟨⟨block_kept h.cell.block (by decide) o hg, row_kept h.cell.own o (by decide) hg, h.cell.len⟩, h.up, Nat.le_trans h.top hg.size⟩
/-- Its own row is written. -/
theorem BC.self {w w' : World} {k base top : Nat} {b : B} {a : Option Addr} {cap : Nat} (h : BC w k base top b a cap) {l : List M} (hl : l.length = b.mail.length) (o : Own w' base (.slice a b.mail.length cap) l) (hg : w.grownBy w' (Value.slice a b.mail.length cap).ownBlock) :
    BC w' k base top ⟨b.next, l⟩ a cap := by
  refine ⟨⟨?_, ?_, ?_⟩, ?_, Nat.le_trans h.top hg.size⟩
  · dsimp only; rw [hl]; exact block_kept h.cell.block (by decide) h.cell.own hg
  · dsimp only; rw [hl]; exact o
  · dsimp only; rw [hl]; exact h.cell.len
  · dsimp only; rw [hl]; exact h.up

/-- A row of numbers of the call. -/
structure NC (w : World) (base top : Nat) (l : List Int) (a : Option Addr) (cap : Nat) : Prop where
  own : OwnInts w base (.slice a l.length cap) l
  up : UpTo (.slice a l.length cap) top
  len : l.length ≤ 4398046511104
theorem NC.below {w w' : World} {base top : Nat} {l : List Int} {a : Option Addr} {cap : Nat} (h : NC w base top l a cap) (hb : Below w.heap.size w w') : NC w' base top l a cap := ⟨h.own.below hb, h.up, h.len⟩
theorem NC.at {w : World} {base top : Nat} {l : List Int} {a : Option Addr} {cap : Nat} (h : NC w base top l a cap) : IntsAt w (.slice a l.length cap) l := h.own.at h.len
theorem new_nc {w : World} {base : Nat} {l : List Int} {a : Option Addr} {cap : Nat} (h : OwnInts w base (.slice a l.length cap) l) (hl : l.length ≤ 4398046511104) : NC w base w.heap.size l a cap := ⟨h, fun j hj => (World.ownsRow.lt h j hj).2, hl⟩
theorem NC.mark {w w' : World} {base top : Nat} {l : List Int} {a : Option Addr} {cap : Nat} (h : NC w base top l a cap) {base2 : Nat} {v : Value} {l2 : List M} (o : Own w base2 v l2) (hg : w.grownBy w' v.ownBlock) : NC w' base top l a cap :=
  ⟨row_kept h.own o (by decide) hg, h.up, h.len⟩
theorem NC.markI {w w' : World} {base top : Nat} {l : List Int} {a : Option Addr} {cap : Nat} (h : NC w base top l a cap) {base2 top2 : Nat} {v : Value} {l2 : List Int} (o : OwnInts w base2 v l2) (u : UpTo v top2) (hd : top ≤ base2 ∨ top2 ≤ base) (hg : w.grownBy w' v.ownBlock) : NC w' base top l a cap := by
  refine ⟨World.ownsRow.kept h.own hg ?_, h.up, h.len⟩
  rcases hv : (Value.slice a l.length cap).ownBlock with _ | j
  · exact .inl rfl
  · right
    intro e
    have h1 := h.up j hv
    have h2 := (World.ownsRow.lt h.own j hv).1
    have h3 := (World.ownsRow.lt o j e.symm).1
    have h4 := u j e.symm
    omega
theorem NC.self {w w' : World} {base top : Nat} {l l' : List Int} {a : Option Addr} {cap : Nat} (h : NC w base top l a cap) (hl : l'.length = l.length) (o : OwnInts w' base (.slice a l.length cap) l') : NC w' base top l' a cap :=
  ⟨by rw [hl]; exact o, by rw [hl]; exact h.up, by rw [hl]; exact h.len⟩
theorem OwnInts.slice2 {w : World} {base : Nat} {v : Value} {l : List Int} (h : OwnInts w base v l) : ∃ a cap, v = .slice a l.length cap := by
  rcases h.2 with ⟨h, h0⟩ | ⟨g, cap, cur, h, _⟩
  · exact ⟨none, 0, by rw [h0]; exact h⟩
  · exact ⟨_, cap, h⟩
/-- The call's own memory alone is written. -/
theorem bel_mark {w0 w w' : World} (h : Below w0.heap.size w0 w) {base e size n : Nat} {v : Value} {xs : List Value} (o : w.ownsRow base e size v n xs) (hb : w0.heap.size ≤ base) (hg : w.grownBy w' v.ownBlock) : Below w0.heap.size w0 w' :=
  h.grown hg h.size fun k hk => by have := (o.lt k hk).1; omega
theorem markBox_z (b : B) (a : Option Addr) (cap kb base top z : Nat) (w : World) (h : BC w kb base top b a cap) (hb : base ≤ w.heap.size) (hl : b.mail.length ≤ 1048576) (k : Int) (x : Nat) (hx : k = (x : Int)) (h1 : 1 ≤ x) (h2 : x ≤ 100000000) (hz : z = x + b.mail.length * 3) :
    Calls Try.prog 12 #[.agg #[.int .i64 b.next, .slice a b.mail.length cap], .int .i64 k] w fun e w' => e = .returned (.int .i64 (z : Int)) ∧ Own w' base (.slice a b.mail.length cap) (markM x b.mail) ∧ w.grownBy w' (Value.slice a b.mail.length cap).ownBlock := by
  subst hx; subst hz
  exact markBox_any b a cap base x w h.cell.own hb h1 hl (by omega)
theorem heldBox_z (b b' : B) (a : Option Addr) (cap kb base top z : Nat) (w : World) (h : BC w kb base top b' a cap) (hl : b.mail.length ≤ 1048576) (k : Int) (x : Nat) (hx : k = (x : Int)) (he : b'.mail = markM x b.mail) (h1 : 1 ≤ x) (h2 : x ≤ 100000000) (hz : z = x + b.mail.length * 3) :
    Calls Try.prog 14 #[.agg #[.int .i64 b'.next, .slice a b'.mail.length cap], .int .i64 k] w fun e w' => e = .returned (.int .i64 (z : Int)) ∧ Below w.heap.size w w' := by
  subst hx; subst hz
  exact heldBox_any b b' _ x w h.box he h1 hl (by omega)
theorem markIntS_z (l : List Int) (a : Option Addr) (cap base top z : Nat) (w : World) (h : NC w base top l a cap) (hl : l.length ≤ 1048576) (k : Int) (x : Nat) (hx : k = (x : Int)) (h1 : 1 ≤ x) (h2 : x ≤ 100000000) (hz : z = x + l.length) :
    Calls Try.prog 13 #[.slice a l.length cap, .int .i64 k] w fun e w' => e = .returned (.int .i64 (z : Int)) ∧ OwnInts w' base (.slice a l.length cap) (markI x l) ∧ w.grownBy w' (Value.slice a l.length cap).ownBlock := by
  subst hx; subst hz
  exact markIntS_any l a cap base x w h.own h1 hl (by omega)
/-! How long results are. -/
theorem appendTo_le (b : B) (f : Int) (t : ByteArray) : (appendTo b f t).1.mail.length ≤ 11 := by
  by_cases h : bok b = true
  · exact appendTo_len b f t (bok_next h).2.2
  · unfold appendTo
    rw [if_neg (by simp [h])]
    simp [nobox]
theorem expunge_le (b : B) : (expunge b).1.mail.length ≤ 10 ∧ (expunge b).2.length ≤ 10 := by
  by_cases h : bok b = true
  · have := exTo_len b.mail
    have := (bok_next h).2.2
    simp only [expunge, h, if_true]
    omega
  · simp [expunge, h, nobox]
theorem flagsTo_le (b : B) (ps : List Int) (how o : Int) : (flagsTo b ps how o).1.mail.length ≤ 10 := by
  unfold flagsTo
  by_cases h : bok b = true
  · have := (bok_next h).2.2
    split
    · simp only [flagAll_len]; omega
    · simp [nobox]
  · rw [if_neg (by simp [h])]; simp [nobox]
theorem copyTo_le (b : B) (ps : List Int) (tb : B) : (copyTo b ps tb).1.mail.length ≤ 10 := by
  unfold copyTo
  by_cases h : (bok b && bok tb && numsOk b.mail.length ps) = true
  · rw [if_pos h]
    simp only [Bool.and_eq_true] at h
    split
    · exact (bok_next (copyRun_ok h.1.1 ps _ h.1.2)).2.2
    · exact (bok_next h.1.2).2.2
  · rw [if_neg h]; simp [nobox]
theorem uidsOf_le (b : B) (us : List Int) : (uidsOf b us).length ≤ 10 := by
  unfold uidsOf
  by_cases h : bok b = true
  · have := (bok_next h).2.2
    have := uidsTo_len us b.mail 0
    rw [if_pos h]; omega
  · rw [if_neg h]; simp
end Go.Proofs.Ytpahgjideppmoaa

/- WALKS: the reader that draws inputs out of a code (l6Open, pick): it writes its own counter alone, and each number that it gives lies below the bound. -/
import Derived.Test.YtpahgjideppmoaaFlags
import Derived.BigQuiet
namespace Go.Proofs.Ytpahgjideppmoaa
open Go.RowKit

/-- A reader in block r: its bytes lie in an older block; its counter has not passed B. -/
def Rd (w : World) (r B : Nat) : Prop :=
  ∃ (a : Option Addr) (len cap p : Nat), p ≤ B ∧ len ≤ 2000 ∧ w.heap[r]? = some (.cells #[.slice a len cap, .int .i64 p] 73 (0, 0)) ∧
    (len = 0 ∨ ∃ b off, a = some ⟨b, off, none⟩ ∧ b < r ∧ ∀ i, i < len → ∃ n : Nat, n < 256 ∧ w.cell? ⟨b, off + i, none⟩ = some (.int .u8 (n : Int)))

theorem Rd.lt {w : World} {r B : Nat} (h : Rd w r B) : r < w.heap.size := by
  obtain ⟨a, len, cap, p, _, _, hh, _⟩ := h
  exact lt_of_block hh
theorem Rd.more {w : World} {r B B' : Nat} (h : Rd w r B) (hB : B ≤ B') : Rd w r B' := by
  obtain ⟨a, len, cap, p, hp, h⟩ := h
  exact ⟨a, len, cap, p, by omega, h⟩
/-- The reader stands where nothing up to its block has turned. -/
theorem Rd.keep {w w' : World} {r B : Nat} (h : Rd w r B) (hk : ∀ k, k ≤ r → w'.heap[k]? = w.heap[k]?) : Rd w' r B := by
  obtain ⟨a, len, cap, p, hp, hl, hh, hc⟩ := h
  refine ⟨a, len, cap, p, hp, hl, (hk r (Nat.le_refl _)).trans hh, ?_⟩
  rcases hc with h0 | ⟨b, off, ha, hb, hc⟩
  · exact .inl h0
  · refine .inr ⟨b, off, ha, hb, fun i hi => ?_⟩
    obtain ⟨n, hn, hc⟩ := hc i hi
    exact ⟨n, hn, (World.cell?_of_block (w := w) (hk b (by omega))).trans hc⟩
theorem Rd.below {w w' : World} {r B : Nat} (h : Rd w r B) (hb : Below w.heap.size w w') : Rd w' r B :=
  h.keep fun k hk => hb.block k (by have := h.lt; omega)
theorem Rd.grown {w w' : World} {r B : Nat} (h : Rd w r B) (hb : w.grownBy w' none) : Rd w' r B :=
  h.keep fun k hk => hb.block k (by have := h.lt; omega) (by simp)

theorem grown_of_below {w w' : World} {row : Option Nat} (h : Below w.heap.size w w') : w.grownBy w' row := ⟨h.os, h.tape, h.output, h.size, fun k hk _ => h.block k hk⟩
theorem grown_trans {a b c : World} {row : Option Nat} (h : a.grownBy b row) (k : b.grownBy c row) : a.grownBy c row :=
  ⟨k.os.trans h.os, k.tape.trans h.tape, k.output.trans h.output, Nat.le_trans h.size k.size, fun i hi hr => (k.block i (Nat.lt_of_lt_of_le hi h.size) hr).trans (h.block i hi hr)⟩
theorem grown_refl (a : World) (row : Option Nat) : a.grownBy a row := ⟨rfl, rfl, rfl, Nat.le_refl _, fun _ _ _ => rfl⟩

/-- What the counter's store and any draws leave. -/
theorem pick_end (w : World) (r B : Nat) (h : Rd w r B) (a : Option Addr) (len cap p : Nat) (hh : w.heap[r]? = some (.cells #[.slice a len cap, .int .i64 p] 73 (0, 0))) (hp : p ≤ B) (w' : World)
    (hw : w'.os = w.os ∧ w'.tape = w.tape ∧ w'.output = w.output ∧ w'.heap = (w.setCell ⟨r, 1, none⟩ (.int .i64 ((p : Int) + 1))).heap) : Rd w' r (B + 1) ∧ w.grownBy w' (some r) := by
  obtain ⟨h1, h2, h3, h4⟩ := hw
  have hr := h.lt
  obtain ⟨a', len', cap', p', hp', hl, hh', hc⟩ := h
  rw [hh] at hh'
  simp only [Option.some.injEq, Obj.cells.injEq, Array.mk.injEq, List.cons.injEq, Value.slice.injEq, Value.int.injEq] at hh'
  obtain ⟨⟨⟨rfl, rfl, rfl⟩, ⟨_, hpe⟩, _⟩, _⟩ := hh'
  have hoth : ∀ k, k ≠ r → w'.heap[k]? = w.heap[k]? := fun k hk => by rw [h4]; exact Below.heap_setCell _ _ _ _ hk
  have hown : w'.heap[r]? = some (.cells #[.slice a len cap, .int .i64 ((p + 1 : Nat) : Int)] 73 (0, 0)) := by
    have h' : w.heap[r] = .cells #[.slice a len cap, .int .i64 p] 73 (0, 0) := by simpa [Array.getElem?_eq_getElem hr] using hh
    rw [h4]
    show (w.heap.modify r _)[r]? = _
    rw [Array.getElem?_eq_getElem (by simpa using hr), Array.getElem_modify_self, h']
    rfl
  refine ⟨⟨a, len, cap, p + 1, by omega, hl, hown, ?_⟩, h1, h2, h3, ?_, fun k _ hk => hoth k (fun e => hk (by rw [e]))⟩
  · rcases hc with h0 | ⟨b, off, ha, hb, hc⟩
    · exact .inl h0
    · refine .inr ⟨b, off, ha, hb, fun i hi => ?_⟩
      obtain ⟨n, hn, hc⟩ := hc i hi
      exact ⟨n, hn, (World.cell?_of_block (w := w) (hoth b (by omega))).trans hc⟩
  · rw [h4]; simp [World.setCell]

theorem i64_xor (a b : Nat) (ha : a < 1099511627776) (hb : b < 1099511627776) : bits .xor .i64 (a : Int) (b : Int) = ((a ^^^ b : Nat) : Int) := by
  have hx : a ^^^ b < 2 ^ 40 := Nat.xor_lt_two_pow (by omega) (by omega)
  show IntKind.i64.wrap ((BitVec.ofInt 64 (a : Int) ^^^ BitVec.ofInt 64 (b : Int)).toNat : Int) = _
  rw [BitVec.toNat_xor, ofInt_u64 a (by omega), ofInt_u64 b (by omega)]
  exact IntWalk.i64_in _ (by omega)

theorem pick_val (x y p len N : Nat) (hx : x < 256) (hy : y < 256) (hp : p ≤ 1000000) (hN : 1 ≤ N) :
    ∃ m : Nat, (bits .xor .i64 ((x : Int) * 131 + (y : Int) * 1117 + (p : Int) * 29 + (p : Int) / (len : Int) * 53) (((x : Int) * 131 + (y : Int) * 1117 + (p : Int) * 29 + (p : Int) / (len : Int) * 53) / 64)).tmod (N : Int) = (m : Int) ∧ (m : Int) < (N : Int) := by
  have hq : p / len ≤ p := Nat.div_le_self p len
  have e : ((x : Int) * 131 + (y : Int) * 1117 + (p : Int) * 29 + (p : Int) / (len : Int) * 53) = ((x * 131 + y * 1117 + p * 29 + p / len * 53 : Nat) : Int) := by simp
  rw [e]
  have hT : x * 131 + y * 1117 + p * 29 + p / len * 53 < 1099511627776 := by omega
  generalize x * 131 + y * 1117 + p * 29 + p / len * 53 = T at hT
  have e2 : (T : Int) / 64 = ((T / 64 : Nat) : Int) := by simp
  rw [e2, i64_xor T (T / 64) hT (by omega)]
  refine ⟨(T ^^^ T / 64) % N, ?_, by have := Nat.mod_lt (T ^^^ T / 64) (show 0 < N by omega); omega⟩
  rw [Int.tmod_eq_emod_of_nonneg (Int.natCast_nonneg _)]; simp

set_option maxHeartbeats 400000 in
theorem pick_any (r B : Nat) (n : Int) (hn : 1 ≤ n) (hn' : n ≤ 1000000) (hB : B ≤ 1000000) (w : World) (h : Rd w r B) :
    Calls Try.prog 42 #[.pointer (some ⟨r, 0, none⟩), .int .i64 n] w fun e w' => ∃ m : Nat, e = .returned (.int .i64 m) ∧ (m : Int) < n ∧ Rd w' r (B + 1) ∧ w.grownBy w' (some r) := by
  have hR := h
  have hlt := h.lt
  obtain ⟨a, len, cap, p, hp, hl, hh, hc⟩ := h
  obtain ⟨N, rfl⟩ := Int.eq_ofNat_of_zero_le (show 0 ≤ n by omega)
  have E := pick_end w r B hR a len cap p hh hp
  have HE := Lib.hid E
  have c0 : w.cell? ⟨r, 0, none⟩ = some (.slice a len cap) := by simp [World.cell?, hh]
  have c1 : w.cell? ⟨r, 1, none⟩ = some (.int .i64 p) := by simp [World.cell?, hh]
  have f1 : w.frozen? ⟨r, 1, none⟩ = false := by simp [World.frozen?, hh]
  clear E hh hR
  by_cases h0 : len = 0
  · subst h0
    clear hc
    have hn1 : ¬ (N : Int) < 1 := by omega
    go_enter Try.func42, Try.ntmps42
    go_wp2
    go_ret
    exact ⟨0, rfl, by omega, HE.out _ ⟨rfl, rfl, rfl, rfl⟩⟩
  · rcases hc with h0' | ⟨b, off, rfl, hb, hc⟩
    · exact absurd h0' h0
    have hn1 : ¬ (N : Int) < 1 := by omega
    have hl0 : ((len : Int) == 0) = false := by simp; omega
    by_cases hpl : p < len
    · obtain ⟨x, hx, hcx⟩ := hc p hpl
      have hbr : b ≠ r := by omega
      clear hc
      go_enter Try.func42, Try.ntmps42
      go_wp2
      go_ret
      exact ⟨x % N, ret_int (by simp), by have := Nat.mod_lt x (show 0 < N by omega); omega, HE.out _ ⟨rfl, rfl, rfl, rfl⟩⟩
    · have hm1 : p % len < len := Nat.mod_lt _ (by omega)
      have hm2 : (p * 7 + 3) % len < len := Nat.mod_lt _ (by omega)
      obtain ⟨x, hx, hcx⟩ := hc _ hm1
      obtain ⟨y, hy, hcy⟩ := hc _ hm2
      have hbr : b ≠ r := by omega
      have hd1 : 0 ≤ (p : Int) / (len : Int) := Int.ediv_nonneg (Int.natCast_nonneg _) (Int.natCast_nonneg _)
      have hd2 : (p : Int) / (len : Int) ≤ p := Int.ediv_le_self _ (Int.natCast_nonneg _)
      have w0 : ((p : Int) * 7 + 3) % (len : Int) = (((p * 7 + 3) % len : Nat) : Int) := by simp
      have w1 : 0 ≤ ((p : Int) * 7 + 3) % (len : Int) := by rw [w0]; exact Int.natCast_nonneg _
      have w2 : ((p : Int) * 7 + 3) % (len : Int) < (len : Int) := by rw [w0]; exact_mod_cast hm2
      have w3 : (((p : Int) * 7 + 3) % (len : Int)).toNat = (p * 7 + 3) % len := by rw [w0, Int.toNat_natCast]
      obtain ⟨m, hm, hmN⟩ := pick_val x y p len N hx hy (by omega) (by omega)
      have HM := Lib.hid hm
      clear hc w0 hm
      go_enter Try.func42, Try.ntmps42
      go_wp2
      go_quiet (fail)
      clear hcx hcy w1 w2 w3 hm1 hm2
      go_wp2
      go_ret
      exact ⟨m, ret_int HM.out, hmN, HE.out _ ⟨rfl, rfl, rfl, rfl⟩⟩
/-- A code: bytes that can be read. -/
def CodeAt (w : World) (a : Option Addr) (len : Nat) : Prop :=
  len = 0 ∨ ∃ b off, a = some ⟨b, off, none⟩ ∧ b < w.heap.size ∧ ∀ i, i < len → ∃ n : Nat, n < 256 ∧ w.cell? ⟨b, off + i, none⟩ = some (.int .u8 (n : Int))
theorem l6Open_any (a : Option Addr) (len cap : Nat) (hcap : len ≤ cap) (w : World) (hc : CodeAt w a len) :
    Calls Try.prog 30 #[.slice a len cap] w fun e w' => ∃ r, w.heap.size ≤ r ∧ e = .returned (.pointer (some ⟨r, 0, none⟩)) ∧ Rd w' r 0 ∧ Below w.heap.size w w' := by
  have fin : ∀ len' cap', len' ≤ len → len' ≤ 2000 → Rd (w.alloc (.cells #[.slice a len' cap', .int .i64 0] 73)) w.heap.size 0 ∧ Below w.heap.size w (w.alloc (.cells #[.slice a len' cap', .int .i64 0] 73)) := by
    intro len' cap' h1 h2
    have bel : Below w.heap.size w (w.alloc (.cells #[.slice a len' cap', .int .i64 0] 73)) := (Below.refl _ _).alloc (Nat.le_refl _) _
    refine ⟨⟨a, len', cap', 0, Nat.le_refl _, h2, heap_alloc_new w _, ?_⟩, bel⟩
    rcases hc with h0 | ⟨b, off, ha, hb, hc⟩
    · exact .inl (by omega)
    · refine .inr ⟨b, off, ha, hb, fun i hi => ?_⟩
      obtain ⟨n, hn, hc⟩ := hc i (by omega)
      exact ⟨n, hn, (bel.cell hb).trans hc⟩
  have HF := Lib.hid fin
  clear fin hc
  by_cases h : len ≤ 2000
  · go_enter Try.func30, Try.ntmps30
    go_wp2
    go_ret
    exact ⟨_, Nat.le_refl _, rfl, HF.out _ _ (Nat.le_refl _) h⟩
  · go_enter Try.func30, Try.ntmps30
    go_wp2
    go_ret
    exact ⟨_, Nat.le_refl _, rfl, HF.out _ _ (by omega) (Nat.le_refl _)⟩
end Go.Proofs.Ytpahgjideppmoaa

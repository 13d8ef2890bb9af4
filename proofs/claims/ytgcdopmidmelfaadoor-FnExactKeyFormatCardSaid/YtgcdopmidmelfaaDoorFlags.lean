/- WALKS: the functions on flags (the program's and the reference's): what each computes. -/
import Derived.Test.YtgcdopmidmelfaaDoorProg
import Derived.Test.YtgcdopmidmelfaaDoorPlain
import Derived.WalkKit
import Derived.Lib.Hide
import Derived.WalkSpells
namespace Go.Proofs.YtgcdopmidmelfaaDoor
open Go.RowKit

theorem ret_int {k : IntKind} {a b : Int} (h : a = b) : Ending.returned (.int k a) = .returned (.int k b) := by rw [h]
theorem ret_bool {a b : Bool} (h : a = b) : Ending.returned (.bool a) = .returned (.bool b) := by rw [h]
theorem bcell {W w1 : World} (hb : Below W.heap.size W w1) : (∀ b o, b < W.heap.size → w1.cell? ⟨b, o, none⟩ = W.cell? ⟨b, o, none⟩) ∧ (∀ b o, b < W.heap.size → w1.frozen? ⟨b, o, none⟩ = W.frozen? ⟨b, o, none⟩) :=
  ⟨fun b o h => hb.cell (p := ⟨b, o, none⟩) h, fun b o h => hb.frozen (p := ⟨b, o, none⟩) h⟩

theorem cell_of_block {w : World} {b j : Nat} {cs : Array Value} {t : TypeId} {fz : Nat × Nat} {v : Value} (h : w.heap[b]? = some (.cells cs t fz)) (hv : cs[j]? = some v) : w.cell? ⟨b, j, none⟩ = some v := by
  simp [World.cell?, h, hv]
theorem run_eql_func_nil {P : Program} (w : World) (t : TypeId) {p r : _} {v : _} (fn : Fn) (fi ca : Array Value) (h : P.underlying t = some (.func p r v)) :
    (binOp .eql t (.func fn fi ca) .nilFunc).run P w = .ok (.bool false) w := by
  have e : ∀ d, (Op.equalIn (d + 1) t (.func fn fi ca) .nilFunc).run P w = .ok false w := fun d => by simp [Op.equalIn, run_underlying h]
  simp only [binOp]
  simp [Op.equal, Op.maxDepth, e 9999]
theorem run_eql_nil_func {P : Program} (w : World) (t : TypeId) {p r : _} {v : _} (h : P.underlying t = some (.func p r v)) :
    (binOp .eql t .nilFunc .nilFunc).run P w = .ok (.bool true) w := by
  have e : ∀ d, (Op.equalIn (d + 1) t .nilFunc .nilFunc).run P w = .ok true w := fun d => by simp [Op.equalIn, run_underlying h]
  simp only [binOp]
  simp [Op.equal, Op.maxDepth, e 9999]

theorem l6In_any (n lo hi : Int) (w : World) :
    Calls Tryd.prog 43 #[.int .i64 n, .int .i64 lo, .int .i64 hi] w fun e w' => e = .returned (.bool (decide (lo ≤ n) && decide (n ≤ hi))) ∧ w = w' := by
  go_enter Tryd.func43, Tryd.ntmps43
  by_cases h1 : lo ≤ n
  · go_wp2
    go_ret
    exact ⟨ret_bool (by simp [h1]), rfl⟩
  · go_wp2
    go_ret
    exact ⟨ret_bool (by simp; omega), rfl⟩
theorem bits_at (k : Nat) (hk : k < 5) : [Value.int .i64 1, Value.int .i64 2, Value.int .i64 4, Value.int .i64 8, Value.int .i64 16][k]'(by simpa using hk) = .int .i64 ((2 ^ k : Nat) : Int) := by
  match k, hk with
  | 0, _ => rfl
  | 1, _ => rfl
  | 2, _ => rfl
  | 3, _ => rfl
  | 4, _ => rfl
theorem l4Bit_any (k : Int) (h0 : 0 ≤ k) (hk : k < 5) (w : World) :
    Calls Tryd.prog 27 #[.int .i64 k] w fun e w' => e = .returned (.int .i64 ((2 ^ k.toNat : Nat) : Int)) ∧ Below w.heap.size w w' := by
  obtain ⟨n, rfl⟩ := Int.eq_ofNat_of_zero_le h0
  have hn : n < 5 := by omega
  clear h0 hk
  go_enter Tryd.func27, Tryd.ntmps27
  go_wp2
  go_ret
  exact ⟨congrArg Ending.returned (bits_at n hn), (Below.refl _ _).alloc (Nat.le_refl _) _⟩
end Go.Proofs.YtgcdopmidmelfaaDoor

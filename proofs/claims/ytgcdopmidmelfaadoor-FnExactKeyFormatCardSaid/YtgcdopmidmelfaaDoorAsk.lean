/- LAWS FOR THE WALK: which of the program's nodes an interface value holds. -/
import Derived.Test.YtgcdopmidmelfaaDoorKNode
namespace Go.Proofs.YtgcdopmidmelfaaDoor
open Go.RowKit
set_option linter.unusedVariables false

theorem assert_yes {P : Program} {t x : TypeId} {fs : Array Field} (h : P.underlying t = some (.struct fs)) (v : Value) (w : World) : (Instr.typeAssert (.iface t v) x t true).run P w = .ok (.tuple #[v, .bool true]) w := by
  simp [Instr.typeAssert, run_underlying h, go_sem, Result.andThen]
theorem assert_no {P : Program} {s t x : TypeId} {fs : Array Field} {z : Value} (h : P.underlying t = some (.struct fs)) (hne : s ≠ t) (hz : (P.info? t).map (·.zero) = some (some z)) (v : Value) (w : World) : (Instr.typeAssert (.iface s v) x t true).run P w = .ok (.tuple #[z, .bool false]) w := by
  obtain ⟨j, hj, hz'⟩ := Option.map_eq_some_iff.1 hz
  simp [Instr.typeAssert, run_underlying h, go_sem, Result.andThen, hne, zeroValue, typeInfo, hj, hz']
abbrev Asks (s t : TypeId) (z : Value) : Prop := ∀ (v : Value) (w : World), (Instr.typeAssert (.iface s v) 42 t true).run Tryd.prog w = .ok (.tuple #[z, .bool false]) w
abbrev Told (t : TypeId) : Prop := ∀ (v : Value) (w : World), (Instr.typeAssert (.iface t v) 42 t true).run Tryd.prog w = .ok (.tuple #[v, .bool true]) w
theorem ask_all (s : TypeId) (hs : s ≠ 74) : Asks s 74 (.agg #[]) := assert_no Tryd.underlying74 hs (by kernel_rfl)
theorem ask_has (s : TypeId) (hs : s ≠ 59) : Asks s 59 (.agg #[.int .i64 0]) := assert_no Tryd.underlying59 hs (by kernel_rfl)
theorem ask_text (s : TypeId) (hs : s ≠ 62) : Asks s 62 (.agg #[.string ⟨#[]⟩]) := assert_no Tryd.underlying62 hs (by kernel_rfl)
theorem ask_place (s : TypeId) (hs : s ≠ 64) : Asks s 64 (.agg #[.slice none 0 0]) := assert_no Tryd.underlying64 hs (by kernel_rfl)
theorem ask_uid (s : TypeId) (hs : s ≠ 65) : Asks s 65 (.agg #[.slice none 0 0]) := assert_no Tryd.underlying65 hs (by kernel_rfl)
theorem ask_not (s : TypeId) (hs : s ≠ 67) : Asks s 67 (.agg #[.nilIface]) := assert_no Tryd.underlying67 hs (by kernel_rfl)
theorem tell_all : Told 74 := assert_yes Tryd.underlying74
theorem tell_has : Told 59 := assert_yes Tryd.underlying59
theorem tell_text : Told 62 := assert_yes Tryd.underlying62
theorem tell_place : Told 64 := assert_yes Tryd.underlying64
theorem tell_uid : Told 65 := assert_yes Tryd.underlying65
theorem tell_not : Told 67 := assert_yes Tryd.underlying67
theorem tell_pair : Told 69 := assert_yes Tryd.underlying69
end Go.Proofs.YtgcdopmidmelfaaDoor

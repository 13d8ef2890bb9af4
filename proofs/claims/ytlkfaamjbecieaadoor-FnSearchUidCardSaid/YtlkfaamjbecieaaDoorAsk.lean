/- LAWS FOR THE WALK: which of the program's nodes an interface value holds. -/
import Derived.Test.YtlkfaamjbecieaaDoorKNode
namespace Go.Proofs.YtlkfaamjbecieaaDoor
open Go.RowKit
set_option linter.unusedVariables false

theorem assert_yes {P : Program} {t x : TypeId} {fs : Array Field} (h : P.underlying t = some (.struct fs)) (v : Value) (w : World) : (Instr.typeAssert (.iface t v) x t true).run P w = .ok (.tuple #[v, .bool true]) w := by
  simp [Instr.typeAssert, run_underlying h, go_sem, Result.andThen]
theorem assert_no {P : Program} {s t x : TypeId} {fs : Array Field} {z : Value} (h : P.underlying t = some (.struct fs)) (hne : s ≠ t) (hz : (P.info? t).map (·.zero) = some (some z)) (v : Value) (w : World) : (Instr.typeAssert (.iface s v) x t true).run P w = .ok (.tuple #[z, .bool false]) w := by
  obtain ⟨j, hj, hz'⟩ := Option.map_eq_some_iff.1 hz
  simp [Instr.typeAssert, run_underlying h, go_sem, Result.andThen, hne, zeroValue, typeInfo, hj, hz']
abbrev Asks (s t : TypeId) (z : Value) : Prop := ∀ (v : Value) (w : World), (Instr.typeAssert (.iface s v) 54 t true).run Tryd.prog w = .ok (.tuple #[z, .bool false]) w
abbrev Told (t : TypeId) : Prop := ∀ (v : Value) (w : World), (Instr.typeAssert (.iface t v) 54 t true).run Tryd.prog w = .ok (.tuple #[v, .bool true]) w
theorem ask_all (s : TypeId) (hs : s ≠ 81) : Asks s 81 (.agg #[]) := assert_no Tryd.underlying81 hs (by kernel_rfl)
theorem ask_has (s : TypeId) (hs : s ≠ 83) : Asks s 83 (.agg #[.int .i64 0]) := assert_no Tryd.underlying83 hs (by kernel_rfl)
theorem ask_text (s : TypeId) (hs : s ≠ 85) : Asks s 85 (.agg #[.string ⟨#[]⟩]) := assert_no Tryd.underlying85 hs (by kernel_rfl)
theorem ask_place (s : TypeId) (hs : s ≠ 87) : Asks s 87 (.agg #[.slice none 0 0]) := assert_no Tryd.underlying87 hs (by kernel_rfl)
theorem ask_uid (s : TypeId) (hs : s ≠ 88) : Asks s 88 (.agg #[.slice none 0 0]) := assert_no Tryd.underlying88 hs (by kernel_rfl)
theorem ask_not (s : TypeId) (hs : s ≠ 91) : Asks s 91 (.agg #[.nilIface]) := assert_no Tryd.underlying91 hs (by kernel_rfl)
theorem tell_all : Told 81 := assert_yes Tryd.underlying81
theorem tell_has : Told 83 := assert_yes Tryd.underlying83
theorem tell_text : Told 85 := assert_yes Tryd.underlying85
theorem tell_place : Told 87 := assert_yes Tryd.underlying87
theorem tell_uid : Told 88 := assert_yes Tryd.underlying88
theorem tell_not : Told 91 := assert_yes Tryd.underlying91
theorem tell_pair : Told 93 := assert_yes Tryd.underlying93
end Go.Proofs.YtlkfaamjbecieaaDoor

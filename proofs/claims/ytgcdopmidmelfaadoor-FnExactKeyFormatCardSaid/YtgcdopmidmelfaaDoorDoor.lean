/- THE FRAME of a law that names the table of flags' names: what the row's list gives the walk (the table's cells), how the table reads again. -/
import Derived.Test.YtgcdopmidmelfaaDoorFrame
import Derived.Test.YtgcdopmidmelfaaDoorNames
import Derived.Test.YtgcdopmidmelfaaDoorCards
import Derived.Test.YtgcdopmidmelfaaDoorTie
import Derived.LaidMore
import Derived.Stop.Joined
import Derived.WalkSmall
namespace Go.Proofs.YtgcdopmidmelfaaDoor
open Go.ChangeShapes Go.WideShapes Go.ChangeAt Go.RowKit
set_option maxRecDepth 100000

theorem gNames : Tryd.prog.globalNamed "loop.example/mailhost/impl.flagNames" = some 0 := by kernel_rfl
theorem gNamesType : (Tryd.prog.globals[0]?).map (·.type) = some 76 := by kernel_rfl
theorem cellsStr : Tryd.prog.cellsOf 9 = 1 := by kernel_rfl
theorem cellsTab : Tryd.prog.cellsOf 76 = 5 := by kernel_rfl

theorem laidVars_mem {P : Program} {w : World} : ∀ {L : List (String × DataW Unit)} {ps : List MemPlace}, DataW.LaidVars P w L ps → ∀ {n : String} {d : DataW Unit}, (n, d) ∈ L →
    ∃ g t cs fuel p, P.globalNamed n = some g ∧ (P.globals[g]?).map (·.type) = some t ∧ w.var? P n = some cs ∧ DataW.trod (fun _ => ()) P w 0 (fun _ => true) false fuel t cs.toList = some (d, p)
  | [], _, _, _, _, h => by cases h
  | (m, e) :: r, _, h, n, d, hm => by
    obtain ⟨g, t, cs, fuel, p, q, h1, h2, h3, h4, h5, _⟩ := h
    cases hm with
    | head => exact ⟨g, t, cs, fuel, p, h1, h2, h3, h4⟩
    | tail _ hm => exact laidVars_mem h5 hm

theorem str_of_trod {W : World} {fuel : Nat} {cs : List Value} {s : List UInt8} {p : List MemPlace} {sp : Nat → Bool} (h : DataW.trod (fun _ => ()) Tryd.prog W 0 sp false fuel 9 cs = some (.lit (.string s), p)) : cs = [.string ⟨s.toArray⟩] := by
  obtain ⟨b, rfl, hx, _⟩ := DataW.trod_string Tryd.underlying9 h
  simp only [Prod.mk.injEq, DataW.lit.injEq, Lit.string.injEq] at hx
  rw [(show StrIs b s from hx.1.symm).is]

theorem names_var {L : List (String × DataW Unit)} {W : World} (hp : (L.all fun x => x.2.handleName?.isNone) = true)
    (hm : ("loop.example/mailhost/impl.flagNames", Rows.laid_loop_example_mailhost_impl_flagNames) ∈ L) (h : laidMetH Tryd.prog L W) :
    W.var? Tryd.prog "loop.example/mailhost/impl.flagNames" = some namesCells := by
  rw [MakeChecks.laidMetH_plain _ _ _ hp] at h
  obtain ⟨ps, hL, _⟩ := h
  obtain ⟨g, t, cs, fuel, p, h1, h2, h3, h4⟩ := laidVars_mem hL hm
  obtain rfl := Option.some.inj (gNames.symm.trans h1)
  obtain rfl := Option.some.inj (gNamesType.symm.trans h2)
  rw [h3]
  congr 1
  obtain ⟨xs, m, rfl, hx, hlen, hn, hel⟩ := DataW.trod_array Tryd.underlying76 h4
  rw [cellsTab] at hlen
  rw [cellsStr] at hel
  simp only [Prod.mk.injEq] at hx
  obtain ⟨l⟩ := cs
  match l, hlen, xs, hn, hel, hx with
  | [c0, c1, c2, c3, c4], _, [x0, x1, x2, x3, x4], _, hel, hx =>
    have k0 := hel 0 (by omega); have k1 := hel 1 (by omega); have k2 := hel 2 (by omega); have k3 := hel 3 (by omega); have k4 := hel 4 (by omega)
    obtain ⟨y0, q0⟩ := x0; obtain ⟨y1, q1⟩ := x1; obtain ⟨y2, q2⟩ := x2; obtain ⟨y3, q3⟩ := x3; obtain ⟨y4, q4⟩ := x4
    simp only [Rows.laid_loop_example_mailhost_impl_flagNames, List.map_cons, List.map_nil, DataW.agg.injEq, List.cons.injEq] at hx
    obtain ⟨⟨rfl, rfl, rfl, rfl, rfl, _⟩, _⟩ := hx
    have e0 := str_of_trod (W := W) (cs := [c0]) k0
    have e1 := str_of_trod (W := W) (cs := [c1]) k1
    have e2 := str_of_trod (W := W) (cs := [c2]) k2
    have e3 := str_of_trod (W := W) (cs := [c3]) k3
    have e4 := str_of_trod (W := W) (cs := [c4]) k4
    simp only [List.cons.injEq, and_true] at e0 e1 e2 e3 e4
    rw [e0, e1, e2, e3, e4]
    rfl

theorem names_of_var {W : World} (h : W.var? Tryd.prog "loop.example/mailhost/impl.flagNames" = some namesCells) : Names W := by
  unfold World.var? at h
  rw [gNames] at h
  simp only [Option.bind_some] at h
  split at h
  · next cs t fz e => exact ⟨t, fz, by rw [e]; cases h; rfl⟩
  · cases h

abbrev tableH {H : Type} : DataW H := .agg [.lit (.string [83, 101, 101, 110]), .lit (.string [65, 110, 115, 119, 101, 114, 101, 100]), .lit (.string [70, 108, 97, 103, 103, 101, 100]), .lit (.string [68, 101, 108, 101, 116, 101, 100]), .lit (.string [68, 114, 97, 102, 116])]
theorem reads_table {H : Type} (enc : TypeId × Value → H) (W : World) (sp : Nat → Bool) : DataW.trod enc Tryd.prog W 0 sp true 3 76 namesCells.toList = some (tableH, []) := by kernel_rfl

/-- The table reads again wherever it still lies. -/
theorem vars_again {H : Type} (enc : TypeId × Value → H) {W : World} (h : W.var? Tryd.prog "loop.example/mailhost/impl.flagNames" = some namesCells) (sp : Nat → Bool) :
    DataW.TrodVars enc Tryd.prog W sp ["loop.example/mailhost/impl.flagNames"] [tableH] (MemPlace.row ⟨0, 0, none⟩ namesCells.size ++ []) :=
  trodVars_mk1 gNames gNamesType h (reads_table enc W sp)
theorem vars_are {H : Type} {enc : TypeId × Value → H} {W : World} {gs : List (DataW H)} {q : List MemPlace} (hV : DataW.TrodVars enc Tryd.prog W (fun _ => true) ["loop.example/mailhost/impl.flagNames"] gs q)
    (h : W.var? Tryd.prog "loop.example/mailhost/impl.flagNames" = some namesCells) : gs = [tableH] := by
  obtain ⟨g, t, cs, fuel, d, p', rfl, hg, ht, hvar, hd, rfl⟩ := trodVars_one hV
  obtain rfl := Option.some.inj (gNames.symm.trans hg)
  obtain rfl := Option.some.inj (gNamesType.symm.trans ht)
  obtain rfl : cs = namesCells := Option.some.inj (hvar.symm.trans h)
  obtain ⟨rfl, _⟩ := DataW.Trod.unique (v := .agg namesCells) ⟨fuel, hd⟩ ⟨3, reads_table enc W _⟩
  rfl
end Go.Proofs.YtgcdopmidmelfaaDoor

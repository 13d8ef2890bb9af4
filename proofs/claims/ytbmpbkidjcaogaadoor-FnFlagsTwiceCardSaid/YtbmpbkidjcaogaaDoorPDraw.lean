/- WALKS of the laws on the reading of flags' texts. -/
import Derived.Test.YtbmpbkidjcaogaaDoorPRef
import Derived.Test.YtbmpbkidjcaogaaDoorDrawFlags
namespace Go.Proofs.YtbmpbkidjcaogaaDoor
open Go.RowKit
set_option linter.unusedVariables false

theorem of_at (r B b n cap : Nat) (P : ByteArray → Prop) (hn : 1 ≤ n) (hn' : n ≤ 1000) (hB : B ≤ 1000000) (w : World) (h : Rd w r B) (hb : b ≠ r) (hc : ∀ k, k < n → ∃ s, P s ∧ w.cell? ⟨b, k, none⟩ = some (.string s)) :
    Calls Tryd.prog 23 #[.pointer (some ⟨r, 0, none⟩), .slice (some ⟨b, 0, none⟩) n cap] w fun e w' => ∃ s, e = .returned (.string s) ∧ P s ∧ Rd w' r (B + 1) ∧ w.grownBy w' (some r) := by
  have HC := Lib.hid hc
  clear hc
  go_enter Tryd.func23, Tryd.ntmps23
  go_wp2_with fail
  refine (pick_any r B _ (by omega) (by omega) (by omega) _ h).mono ?_
  rintro e w1 ⟨m, rfl, hm, h1, g1⟩
  obtain ⟨s, hp, hs⟩ := HC.out m (by omega)
  have HP := Lib.hid hp
  have hs1 := (g1.block b (World.block_lt_of_cell? _ _ hs) (by simp; exact hb))
  have hs2 : w1.cell? ⟨b, m, none⟩ = some (.string s) := (World.cell?_of_block (a := ⟨b, m, none⟩) hs1).trans hs
  have hm' : m < n := by omega
  clear hs hs1 hp
  go_wp2_with fail
  go_ret
  exact ⟨s, rfl, HP.out, h1, g1⟩
def textsBad : Array Value := #[.string ⟨#[]⟩, .string ⟨#[40]⟩, .string ⟨#[41]⟩, .string ⟨#[40, 41]⟩, .string ⟨#[40, 83, 101, 101, 110]⟩, .string ⟨#[40, 115, 101, 101, 110, 41]⟩, .string ⟨#[40, 83, 101, 101, 110, 32, 83, 101, 101, 110, 41]⟩, .string ⟨#[40, 68, 114, 97, 102, 116, 32, 83, 101, 101, 110, 41]⟩, .string ⟨#[40, 32, 83, 101, 101, 110, 41]⟩, .string ⟨#[40, 83, 101, 101, 110, 32, 41]⟩, .string ⟨#[40, 83, 101, 101, 110, 32, 32, 68, 114, 97, 102, 116, 41]⟩]
theorem textsBad_at (k : Nat) (hk : k < 11) : ∃ s : ByteArray, s.size ≤ 1000 ∧ textsBad[k]? = some (.string s) := by
  match k, hk with
  | 0, _ => exact ⟨_, by decide, rfl⟩
  | 1, _ => exact ⟨_, by decide, rfl⟩
  | 2, _ => exact ⟨_, by decide, rfl⟩
  | 3, _ => exact ⟨_, by decide, rfl⟩
  | 4, _ => exact ⟨_, by decide, rfl⟩
  | 5, _ => exact ⟨_, by decide, rfl⟩
  | 6, _ => exact ⟨_, by decide, rfl⟩
  | 7, _ => exact ⟨_, by decide, rfl⟩
  | 8, _ => exact ⟨_, by decide, rfl⟩
  | 9, _ => exact ⟨_, by decide, rfl⟩
  | 10, _ => exact ⟨_, by decide, rfl⟩
set_option maxRecDepth 100000 in
set_option maxHeartbeats 1000000 in
theorem DrawFlagsParse_any (a : Option Addr) (len cap : Nat) (hcap : len ≤ cap) (w : World) (hc : CodeAt w a len) :
    Calls Tryd.prog 10 #[.slice a len cap] w fun e w' => ∃ s : ByteArray, e = .returned (.string s) ∧ s.size ≤ 1000 ∧ Below w.heap.size w w' := by
  go_enter Tryd.func10, Tryd.ntmps10
  go_wp2_with fail
  refine (l6Open_any a len cap hcap w hc).mono ?_
  clear hc
  rintro e w1 ⟨r, hr, rfl, h1, b1⟩
  go_wp2_with fail
  refine (pick_any r 0 _ (by omega) (by omega) (by omega) _ h1).mono ?_
  rintro e w2 ⟨m, rfl, hm, h2, g2⟩
  have b2 := b1.grown g2 b1.size (fun k hk => by cases hk; exact hr)
  have hlt2 := h2.lt
  clear g2 h1
  by_cases hm0 : m = 0
  · subst hm0
    have hc : ∀ k, k < 11 → ∃ s : ByteArray, s.size ≤ 1000 ∧ (w2.alloc (.cells textsBad 9)).cell? ⟨w2.heap.size, k, none⟩ = some (.string s) := fun k hk => by
      obtain ⟨s, hz, hs⟩ := textsBad_at k hk
      exact ⟨s, hz, cell_of_block (heap_alloc_new w2 _) hs⟩
    have HC := Lib.hid hc
    clear hc
    have h2' : Rd (w2.alloc (.cells textsBad 9)) r 1 := h2.below ((Below.refl _ _).alloc (Nat.le_refl _) _)
    have b2' := b2.alloc b2.size (.cells textsBad 9)
    have hne : w2.heap.size ≠ r := by omega
    clear hlt2 h2 b2 b1
    go_wp2_with fail
    refine (of_at r 1 w2.heap.size 11 11 (fun s => s.size ≤ 1000) (by omega) (by omega) (by omega) _ h2' hne HC.out).mono ?_
    rintro e w3 ⟨s, rfl, hz, h3, g3⟩
    have b3 := b2'.grown g3 b2'.size (fun k hk => by cases hk; exact hr)
    clear b2' g3 h3 h2'
    go_wp2_with fail
    go_ret
    exact ⟨s, rfl, hz, b3⟩
  · have hm1 : ((m : Int) == 0) = false := by simp; omega
    go_wp2_with fail
    refine (l91Flags_any r 1 (by omega) _ h2).mono ?_
    rintro e w3 ⟨f, rfl, hf, h3, g3⟩
    have b3 := b2.grown g3 b2.size (fun k hk => by cases hk; exact hr)
    clear b1 b2 g3 h2 h3
    go_wp2_with fail
    refine (specFlagsText_any f _).mono ?_
    rintro e w4 ⟨s, rfl, hs, b4⟩
    have hz : s.size ≤ 1000 := by rw [hs.size]; have := flagsTxt_len f; omega
    have b4' := b3.trans (b4.mono b3.size)
    clear b3 b4
    go_wp2_with fail
    go_ret
    exact ⟨s, rfl, hz, b4'⟩
end Go.Proofs.YtbmpbkidjcaogaaDoor

/- WALKS: the reference's text of flags. -/
import Derived.Test.YtbmpbkidjcaogaaDoorFlags2
namespace Go.Proofs.YtbmpbkidjcaogaaDoor
open Go.RowKit
set_option linter.unusedVariables false

/-- The flags' names, in the order of their bits. -/
def nm : Nat → List UInt8
  | 0 => [83, 101, 101, 110]
  | 1 => [65, 110, 115, 119, 101, 114, 101, 100]
  | 2 => [70, 108, 97, 103, 103, 101, 100]
  | 3 => [68, 101, 108, 101, 116, 101, 100]
  | 4 => [68, 114, 97, 102, 116]
  | _ => []
theorem nm_len (k : Nat) : (nm k).length ≤ 8 := by unfold nm; split <;> decide
/-- The text of flags, name by name, and the whole. -/
def txtTo (f : Nat) : Nat → List UInt8
  | 0 => [40]
  | k + 1 => if f / 2 ^ k % 2 = 1 then (if 1 < (txtTo f k).length then txtTo f k ++ [32] else txtTo f k) ++ nm k else txtTo f k
def flagsTxt (f : Int) : List UInt8 := if fok f then txtTo f.toNat 5 ++ [41] else []
theorem txtTo_len (f k : Nat) : 1 ≤ (txtTo f k).length ∧ (txtTo f k).length ≤ 1 + 9 * k := by
  induction k with
  | zero => simp [txtTo]
  | succ k ih =>
    have := nm_len k
    simp only [txtTo]
    split
    · split <;> simp <;> omega
    · omega
theorem flagsTxt_len (f : Int) : (flagsTxt f).length ≤ 47 := by
  unfold flagsTxt; split
  · have := txtTo_len f.toNat 5; simp; omega
  · simp
/-- A string that bears these bytes. -/
def StrIs (s : ByteArray) (l : List UInt8) : Prop := s.data.toList = l
theorem StrIs.size {s : ByteArray} {l : List UInt8} (h : StrIs s l) : s.size = l.length := by
  unfold StrIs at h; rw [← h]; rfl
theorem StrIs.append {s t : ByteArray} {l m : List UInt8} (h : StrIs s l) (k : StrIs t m) : StrIs (s ++ t) (l ++ m) := by
  unfold StrIs at *; rw [ByteArray.data_append, Array.toList_append, h, k]
theorem StrIs.eq {s t : ByteArray} {l : List UInt8} (h : StrIs s l) (k : StrIs t l) : s = t := by
  unfold StrIs at *
  cases s; cases t
  congr
  exact Array.toList_inj.1 (h.trans k.symm)
theorem StrIs.mk (l : List UInt8) : StrIs ⟨l.toArray⟩ l := by
  show l.toArray.toList = l
  simp
theorem StrIs.is {s : ByteArray} {l : List UInt8} (h : StrIs s l) : s = ⟨l.toArray⟩ := h.eq (StrIs.mk l)

theorem StrIs.toList {s : ByteArray} {l : List UInt8} (h : StrIs s l) : s.toList = l := by rw [ByteArray.toList_eq]; exact h
theorem flagsTxt_nil {f : Int} (h : fok f = false) : flagsTxt f = [] := by simp [flagsTxt, h]
theorem flagsTxt_ne {f : Int} (h : fok f = true) : flagsTxt f ≠ [] := by simp [flagsTxt, h]
theorem txt_nil {f : Int} {s : ByteArray} (hs : StrIs s (flagsTxt f)) (h : fok f = false) : s.toList = [] := by rw [hs.toList, flagsTxt_nil h]
theorem txt_ne {f : Int} {s : ByteArray} (hs : StrIs s (flagsTxt f)) (h : fok f = true) : ¬ s.toList = [] := by rw [hs.toList]; exact flagsTxt_ne h
theorem isEmpty_no {l : List UInt8} (h : ¬ l = []) : l.isEmpty = false := by cases l <;> simp_all
theorem size32 : (⟨#[32]⟩ : ByteArray).size = 1 := rfl
def namesCells : Array Value := #[.string ⟨#[83, 101, 101, 110]⟩, .string ⟨#[65, 110, 115, 119, 101, 114, 101, 100]⟩, .string ⟨#[70, 108, 97, 103, 103, 101, 100]⟩, .string ⟨#[68, 101, 108, 101, 116, 101, 100]⟩, .string ⟨#[68, 114, 97, 102, 116]⟩]
theorem namesCells_at (k : Nat) (hk : k < 5) : ∃ s, namesCells[k]? = some (.string s) ∧ StrIs s (nm k) ∧ s.size ≤ 8 := by
  match k, hk with
  | 0, _ => exact ⟨_, rfl, rfl, by decide⟩
  | 1, _ => exact ⟨_, rfl, rfl, by decide⟩
  | 2, _ => exact ⟨_, rfl, rfl, by decide⟩
  | 3, _ => exact ⟨_, rfl, rfl, by decide⟩
  | 4, _ => exact ⟨_, rfl, rfl, by decide⟩

theorem l4Names_any (w : World) :
    Calls Tryd.prog 15 #[] w fun e w' => ∃ b, e = .returned (.slice (some ⟨b, 0, none⟩) 5 5) ∧ w.heap.size ≤ b ∧ (∀ k, k < 5 → ∃ s, w'.cell? ⟨b, k, none⟩ = some (.string s) ∧ StrIs s (nm k) ∧ s.size ≤ 8) ∧ Below w.heap.size w w' := by
  have fin : (∀ k, k < 5 → ∃ s, (w.alloc (.cells namesCells 9)).cell? ⟨w.heap.size, k, none⟩ = some (.string s) ∧ StrIs s (nm k) ∧ s.size ≤ 8) ∧ Below w.heap.size w (w.alloc (.cells namesCells 9)) := by
    refine ⟨fun k hk => ?_, (Below.refl _ _).alloc (Nat.le_refl _) _⟩
    obtain ⟨s, h1, h2, h3⟩ := namesCells_at k hk
    exact ⟨s, cell_of_block (heap_alloc_new w _) h1, h2, h3⟩
  have HF := Lib.hid fin
  clear fin
  go_enter Tryd.func15, Tryd.ntmps15
  go_wp2_with fail
  go_ret
  exact ⟨_, rfl, Nat.le_refl _, HF.out.1, HF.out.2⟩
set_option maxHeartbeats 400000 in
theorem specFlagsText_any (f : Int) (w : World) :
    Calls Tryd.prog 13 #[.int .i64 f] w fun e w' => ∃ s, e = .returned (.string s) ∧ StrIs s (flagsTxt f) ∧ Below w.heap.size w w' := by
  rcases hf : fok f with _ | _
  · have hc : flagsTxt f = [] := by simp [flagsTxt, hf]
    have HC := Lib.hid hc; clear hc
    go_enter Tryd.func13, Tryd.ntmps13
    go_wp2_with (go_at_call 27; refine (l4Flags_any _ _).mono ?_; rintro e w' ⟨rfl, rfl⟩)
    go_ret
    exact ⟨_, rfl, by rw [HC.out]; rfl, Below.refl _ _⟩
  · have hb := (fok_iff f).1 hf
    obtain ⟨a, rfl⟩ := Int.eq_ofNat_of_zero_le hb.1
    have ha : a < 32 := by omega
    have hc : flagsTxt (a : Int) = txtTo a 5 ++ [41] := by simp [flagsTxt, hf]
    have HC := Lib.hid hc; clear hc hb
    go_enter Tryd.func13, Tryd.ntmps13
    go_wp2_with (go_at_call 27; refine (l4Flags_any _ _).mono ?_; rintro e w' ⟨rfl, rfl⟩)
    refine (l4Names_any _).mono ?_
    rintro e w1 ⟨b, rfl, hwb, hnames, b1⟩
    have HN := Lib.hid hnames
    have hb1 : b < w1.heap.size := by obtain ⟨s, hs, _⟩ := hnames 0 (by omega); exact World.block_lt_of_cell? _ _ hs
    clear hnames
    go_wp2_with fail
    go_loopw [3, 5] (fun out k wr => ∃ (n : Nat) (s : ByteArray), n ≤ 5 ∧ k = .int .i64 n ∧ out = .string s ∧ Hid (StrIs s (txtTo a n)) ∧ 1 ≤ s.size ∧ s.size ≤ 1 + 9 * n ∧ b < wr.heap.size ∧
      Hid (∀ k, k < 5 → ∃ s, wr.cell? ⟨b, k, none⟩ = some (.string s) ∧ StrIs s (nm k) ∧ s.size ≤ 8) ∧ Below w.heap.size w wr) (fun _ k _ => 5 - (intOf k).toNat)
    case atStart => exact ⟨0, _, by omega, rfl, rfl, rfl, by decide, by decide, hb1, HN, b1⟩
    case round =>
      obtain ⟨n, s, hn, rfl, rfl, HS, hs1, hs2, hb2, HN2, hbel⟩ := hrel
      clear HN b1
      by_cases hlt : n < 5
      · have hp2 : 2 ^ n ≤ 16 := Nat.pow_le_pow_right (by omega) (show n ≤ 4 by omega)
        have hp1 : 1 ≤ 2 ^ n := Nat.one_le_two_pow
        have hE : (2 ^ n = 2 ^ (n : Int).toNat) := by simp
        obtain ⟨c, hbe⟩ : ∃ c, 2 ^ n = c := ⟨_, rfl⟩
        rw [hbe] at hp2 hp1 hE
        have HB := Lib.hid hbe; have HE := Lib.hid hE; clear hbe hE
        obtain ⟨d11, d12⟩ := div_bd a c ha
        rcases mod2_cases a c with ⟨m1, x1⟩ | ⟨m1, x1⟩
        · have hs : txtTo a (n + 1) = txtTo a n := by simp only [txtTo, HB.out, x1]; simp
          have HS2 := Lib.hid hs; clear x1 hs
          go_wp2_with (go_at_call 16; refine (l4Bit_at _ c (by omega) (by omega) HE.out _).mono ?_; rintro e w' ⟨rfl, hq⟩)
          go_roundw
          case rel => exact ⟨n + 1, s, by omega, by go_num, rfl, by show StrIs _ _; rw [HS2.out]; exact HS.out, hs1, by omega, by have := hq.size; omega,
            fun k hk => by obtain ⟨t, h1, h2⟩ := HN2.out k hk; exact ⟨t, (hq.cell (p := ⟨b, k, none⟩) hb2).trans h1, h2⟩, hbel.trans (hq.mono hbel.size)⟩
          case measure => simp [intOf]; omega
        · by_cases hl1 : 1 < s.size
          · have hs : txtTo a (n + 1) = txtTo a n ++ [32] ++ nm n := by
              simp only [txtTo, HB.out, x1]; rw [if_pos trivial, if_pos (by rw [← HS.out.size]; exact hl1)]
            have HS2 := Lib.hid hs; clear x1 hs
            go_wp2_with fail
            refine (l4Bit_at _ c (by omega) (by omega) HE.out _).mono ?_
            rintro e w' ⟨rfl, hq⟩
            obtain ⟨t, h1, h2, h3⟩ := HN2.out n hlt
            have hcell := (hq.cell (p := ⟨b, n, none⟩) hb2).trans h1
            clear h1
            go_wp2_with fail
            go_roundw
            case rel => exact ⟨n + 1, _, by omega, by go_num, rfl, by show StrIs _ _; rw [HS2.out]; exact (HS.out.append (show StrIs _ _ from rfl)).append h2, by simp; omega, by simp [size32]; omega, by have := hq.size; omega,
              fun k hk => by obtain ⟨t, h1, h2⟩ := HN2.out k hk; exact ⟨t, (hq.cell (p := ⟨b, k, none⟩) hb2).trans h1, h2⟩, hbel.trans (hq.mono hbel.size)⟩
            case measure => simp [intOf]; omega
          · have hs : txtTo a (n + 1) = txtTo a n ++ nm n := by
              simp only [txtTo, HB.out, x1]; rw [if_pos trivial, if_neg (by rw [← HS.out.size]; exact hl1)]
            have HS2 := Lib.hid hs; clear x1 hs
            go_wp2_with fail
            refine (l4Bit_at _ c (by omega) (by omega) HE.out _).mono ?_
            rintro e w' ⟨rfl, hq⟩
            obtain ⟨t, h1, h2, h3⟩ := HN2.out n hlt
            have hcell := (hq.cell (p := ⟨b, n, none⟩) hb2).trans h1
            clear h1
            go_wp2_with fail
            go_roundw
            case rel => exact ⟨n + 1, _, by omega, by go_num, rfl, by show StrIs _ _; rw [HS2.out]; exact HS.out.append h2, by simp; omega, by simp; omega, by have := hq.size; omega,
              fun k hk => by obtain ⟨t, h1, h2⟩ := HN2.out k hk; exact ⟨t, (hq.cell (p := ⟨b, k, none⟩) hb2).trans h1, h2⟩, hbel.trans (hq.mono hbel.size)⟩
            case measure => simp [intOf]; omega
      · go_wp2
        go_ret
        have : n = 5 := by omega
        subst this
        exact ⟨_, rfl, by rw [HC.out]; exact HS.out.append (show StrIs _ _ from rfl), hbel⟩
end Go.Proofs.YtbmpbkidjcaogaaDoor

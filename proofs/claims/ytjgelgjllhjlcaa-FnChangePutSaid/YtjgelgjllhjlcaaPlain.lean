/- PLAIN LEAN, no program in sight: flags (a number from 0 to 31), how they are changed, and what a change comes to, bit by bit. -/
namespace Go.Proofs.Ytjgelgjllhjlcaa

/-- Flags are numbers from 0 to 31. -/
def fok (n : Int) : Bool := decide (0 ≤ n) && decide (n ≤ 31)
theorem fok_iff (n : Int) : fok n = true ↔ 0 ≤ n ∧ n ≤ 31 := by simp [fok]
theorem fok_no {n : Int} (h : fok n = false) : n < 0 ∨ 31 < n := by
  simp [fok] at h; omega

def hok (h : Int) : Bool := decide (-1 ≤ h) && decide (h ≤ 1)

/-- The change of valid flags. -/
def chg (how : Int) (f o : Nat) : Nat := if how = 1 then f ||| o else if how = 0 then o else f &&& (31 ^^^ o)
def changed (f how o : Int) : Int := if fok f && fok o && hok how then (chg how f.toNat o.toNat : Nat) else -1
def haveB (f o : Int) : Bool := fok f && fok o && (f.toNat &&& o.toNat == o.toNat)

/-- The change as the reference reckons it: the first k bits. -/
def bitOn (how : Int) (a b : Nat) : Bool := (how == 1 && decide (0 < a + b)) || (how == -1 && a == 1 && b == 0) || (how == 0 && b == 1)
def chgTo (how : Int) (f o : Nat) : Nat → Nat
  | 0 => 0
  | k + 1 => chgTo how f o k + if bitOn how (f / 2 ^ k % 2) (o / 2 ^ k % 2) then 2 ^ k else 0

theorem chgTo_le (how : Int) (f o k : Nat) : chgTo how f o k < 2 ^ k := by
  induction k with
  | zero => simp [chgTo]
  | succ k ih => simp only [chgTo]; split <;> omega

theorem chgTo_1 : ∀ f, f < 32 → ∀ o, o < 32 → chgTo 1 f o 5 = f ||| o := by decide +kernel
theorem chgTo_0 : ∀ f, f < 32 → ∀ o, o < 32 → chgTo 0 f o 5 = o := by decide +kernel
theorem chgTo_m : ∀ f, f < 32 → ∀ o, o < 32 → chgTo (-1) f o 5 = f &&& (31 ^^^ o) := by decide +kernel

theorem chgTo_chg (how : Int) (hh : hok how = true) (f o : Nat) (hf : f < 32) (ho : o < 32) : chgTo how f o 5 = chg how f o := by
  simp [hok] at hh
  have : how = -1 ∨ how = 0 ∨ how = 1 := by omega
  rcases this with rfl | rfl | rfl
  · rw [chgTo_m f hf o ho]; rfl
  · rw [chgTo_0 f hf o ho]; rfl
  · rw [chgTo_1 f hf o ho]; rfl

theorem chg_lt (how : Int) (hh : hok how = true) (f o : Nat) (hf : f < 32) (ho : o < 32) : chg how f o < 32 := by
  rw [← chgTo_chg how hh f o hf ho]; exact chgTo_le _ _ _ 5

end Go.Proofs.Ytjgelgjllhjlcaa

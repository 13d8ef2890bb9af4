/- PLAIN LEAN, no program in sight: flags (a number from 0 to 31), how they are changed, and what a change comes to, bit by bit. -/
namespace Go.Proofs.Ytpahgjideppmoaa

/-- Flags are numbers from 0 to 31. -/
def fok (n : Int) : Bool := decide (0 ≤ n) && decide (n ≤ 31)
theorem fok_iff (n : Int) : fok n = true ↔ 0 ≤ n ∧ n ≤ 31 := by simp [fok]
theorem fok_no {n : Int} (h : fok n = false) : n < 0 ∨ 31 < n := by
  simp [fok] at h; omega

def hok (h : Int) : Bool := decide (-1 ≤ h) && decide (h ≤ 1)

/-- The change of valid flags. -/
def chg (how : Int) (f o : Nat) : Nat := if how = 1 then f ||| o else if how = 0 then o else f &&& (31 ^^^ o)
def changed (f how o : Int) : Int := if fok f && fok o && hok how then (chg how f.toNat o.toNat : Nat) else -1
def haveB (f o : Int) : Bool := fok f && fok o && (f.toNat &&& o.toNat == o.toNat)

/-- The change as the reference reckons it: the first k bits. -/
def bitOn (how : Int) (a b : Nat) : Bool := (how == 1 && decide (0 < a + b)) || (how == -1 && a == 1 && b == 0) || (how == 0 && b == 1)
def chgTo (how : Int) (f o : Nat) : Nat → Nat
  | 0 => 0
  | k + 1 => chgTo how f o k + if bitOn how (f / 2 ^ k % 2) (o / 2 ^ k % 2) then 2 ^ k else 0

theorem chgTo_le (how : Int) (f o k : Nat) : chgTo how f o k < 2 ^ k := by
  induction k with
  | zero => simp [chgTo]
  | succ k ih => simp only [chgTo]; split <;> omega

theorem chgTo_1 : ∀ f, f < 32 → ∀ o, o < 32 → chgTo 1 f o 5 = f ||| o := by decide +kernel
theorem chgTo_0 : ∀ f, f < 32 → ∀ o, o < 32 → chgTo 0 f o 5 = o := by decide +kernel
theorem chgTo_m : ∀ f, f < 32 → ∀ o, o < 32 → chgTo (-1) f o 5 = f &&& (31 ^^^ o) := by decide +kernel

theorem chgTo_chg (how : Int) (hh : hok how = true) (f o : Nat) (hf : f < 32) (ho : o < 32) : chgTo how f o 5 = chg how f o := by
  simp [hok] at hh
  have : how = -1 ∨ how = 0 ∨ how = 1 := by omega
  rcases this with rfl | rfl | rfl
  · rw [chgTo_m f hf o ho]; rfl
  · rw [chgTo_0 f hf o ho]; rfl
  · rw [chgTo_1 f hf o ho]; rfl

theorem chg_lt (how : Int) (hh : hok how = true) (f o : Nat) (hf : f < 32) (ho : o < 32) : chg how f o < 32 := by
  rw [← chgTo_chg how hh f o hf ho]; exact chgTo_le _ _ _ 5

theorem fine_of {f h o : Int} (hc : 0 ≤ changed f h o) : ∃ a b : Nat, f = a ∧ o = b ∧ a < 32 ∧ b < 32 ∧ hok h = true ∧ changed f h o = (chg h a b : Nat) := by
  unfold changed at *
  split at hc
  · next e =>
    rw [if_pos e]
    simp only [Bool.and_eq_true, fok_iff] at e
    obtain ⟨⟨⟨h1, h2⟩, h3, h4⟩, h5⟩ := e
    obtain ⟨a, rfl⟩ := Int.eq_ofNat_of_zero_le h1
    obtain ⟨b, rfl⟩ := Int.eq_ofNat_of_zero_le h3
    exact ⟨a, b, rfl, rfl, by omega, by omega, h5, by simp⟩
  · omega
theorem fok_nat {a : Nat} (h : a < 32) : fok (a : Int) = true := by simp [fok]; omega
theorem changed_nat {a b : Nat} (ha : a < 32) (hb : b < 32) {h : Int} (hh : hok h = true) : changed (a : Int) h (b : Int) = (chg h a b : Nat) := by
  simp [changed, fok_nat ha, fok_nat hb, hh]
theorem haveB_nat {a b : Nat} (ha : a < 32) (hb : b < 32) : haveB (a : Int) (b : Int) = (a &&& b == b) := by
  simp [haveB, fok_nat ha, fok_nat hb]
theorem hok_cases {h : Int} (hh : hok h = true) : h = 1 ∨ h = 0 ∨ h = -1 := by simp [hok] at hh; omega

theorem changed_put {f h o : Int} (hh : h = 0) (hc : 0 ≤ changed f h o) : changed f h o = o := by
  obtain ⟨a, b, rfl, rfl, ha, hb, _, e⟩ := fine_of hc
  rw [e, hh]; simp [chg]
theorem twice_d : (∀ f, f < 32 → ∀ o, o < 32 → chg 1 (chg 1 f o) o = chg 1 f o) ∧ (∀ f, f < 32 → ∀ o, o < 32 → chg 0 (chg 0 f o) o = chg 0 f o) ∧ (∀ f, f < 32 → ∀ o, o < 32 → chg (-1) (chg (-1) f o) o = chg (-1) f o) := by decide +kernel
theorem changed_twice {f h o : Int} (hc : 0 ≤ changed f h o) : changed (changed f h o) h o = changed f h o := by
  obtain ⟨a, b, rfl, rfl, ha, hb, hh, e⟩ := fine_of hc
  rw [e, changed_nat (chg_lt h hh a b ha hb) hb hh]
  rcases hok_cases hh with rfl | rfl | rfl
  · rw [twice_d.1 a ha b hb]
  · rw [twice_d.2.1 a ha b hb]
  · rw [twice_d.2.2 a ha b hb]
theorem remove_d : ∀ f, f < 32 → ∀ o, o < 32 → (f &&& chg (-1) f o == chg (-1) f o) = true ∧ chg (-1) (chg (-1) f o) o = chg (-1) f o ∧ chg 1 (chg (-1) f o) o = chg 1 f o := by decide +kernel
theorem changed_remove {f o : Int} (hc : 0 ≤ changed f (-1) o) :
    haveB f (changed f (-1) o) = true ∧ changed (changed f (-1) o) (-1) o = changed f (-1) o ∧ changed (changed f (-1) o) 1 o = changed f 1 o := by
  obtain ⟨a, b, rfl, rfl, ha, hb, hh, e⟩ := fine_of hc
  have hl := chg_lt (-1) hh a b ha hb
  obtain ⟨d1, d2, d3⟩ := remove_d a ha b hb
  rw [e, changed_nat hl hb hh, changed_nat hl hb rfl, changed_nat ha hb rfl, haveB_nat ha hl]
  exact ⟨d1, by rw [d2], by rw [d3]⟩
theorem set_d : ∀ f, f < 32 → ∀ o, o < 32 → (chg 1 f o &&& f == f) = true ∧ (chg 1 f o &&& o == o) = true ∧ chg 1 f o ≤ f + o := by decide +kernel
theorem changed_set {f o : Int} (hc : 0 ≤ changed f 1 o) : haveB (changed f 1 o) f = true ∧ haveB (changed f 1 o) o = true ∧ changed f 1 o ≤ f + o := by
  obtain ⟨a, b, rfl, rfl, ha, hb, hh, e⟩ := fine_of hc
  have hl := chg_lt 1 hh a b ha hb
  obtain ⟨d1, d2, d3⟩ := set_d a ha b hb
  rw [e, haveB_nat hl ha, haveB_nat hl hb]
  exact ⟨d1, d2, by omega⟩
theorem have_d : ∀ f, f < 32 → ∀ o, o < 32 → (f &&& o == o) = (chg 1 f o == f) := by decide +kernel
theorem have_changed {f o : Int} (hf : fok f = true) (ho : fok o = true) : haveB f o = (changed f 1 o == f) := by
  rw [fok_iff] at hf ho
  obtain ⟨a, rfl⟩ := Int.eq_ofNat_of_zero_le hf.1
  obtain ⟨b, rfl⟩ := Int.eq_ofNat_of_zero_le ho.1
  rw [haveB_nat (by omega) (by omega), changed_nat (by omega) (by omega) rfl, have_d a (by omega) b (by omega), Bool.eq_iff_iff]
  simp; omega
theorem changed_bounds (f h o : Int) : -1 ≤ changed f h o ∧ changed f h o ≤ 31 := by
  by_cases hc : 0 ≤ changed f h o
  · obtain ⟨a, b, rfl, rfl, ha, hb, hh, e⟩ := fine_of hc
    have := chg_lt h hh a b ha hb
    rw [e]; omega
  · unfold changed at *
    split at hc
    · omega
    · next e => rw [if_neg e]; omega
theorem self_d : ∀ f, f < 32 → (f &&& f == f) = true ∧ (f &&& 0 == 0) = true ∧ (31 &&& f == f) = true := by decide +kernel
theorem haveB_self (f : Int) : haveB f f = fok f ∧ haveB f 0 = fok f ∧ haveB 31 f = fok f := by
  rcases hf : fok f with _ | _
  · simp [haveB, hf]
  · rw [fok_iff] at hf
    obtain ⟨a, rfl⟩ := Int.eq_ofNat_of_zero_le hf.1
    obtain ⟨d1, d2, d3⟩ := self_d a (by omega)
    have e0 : haveB (a : Int) 0 = (a &&& 0 == 0) := haveB_nat (b := 0) (by omega) (by omega)
    have e1 : haveB 31 (a : Int) = (31 &&& a == a) := haveB_nat (a := 31) (by omega) (by omega)
    rw [haveB_nat (by omega) (by omega), e0, e1, d1, d2, d3]
    exact ⟨rfl, rfl, rfl⟩
theorem changed_bad (f h o : Int) : (decide (h < -1) || decide (1 < h) || !fok f || !fok o) = (changed f h o == -1) := by
  unfold changed
  by_cases e : (fok f && fok o && hok h) = true
  · rw [if_pos e]
    simp only [Bool.and_eq_true, hok, decide_eq_true_eq] at e
    obtain ⟨⟨hf, ho⟩, h1, h2⟩ := e
    rw [hf, ho, Bool.eq_iff_iff]; simp; omega
  · rw [if_neg e, Bool.eq_iff_iff]
    revert e
    cases fok f <;> cases fok o <;> simp [hok] <;> omega

end Go.Proofs.Ytpahgjideppmoaa

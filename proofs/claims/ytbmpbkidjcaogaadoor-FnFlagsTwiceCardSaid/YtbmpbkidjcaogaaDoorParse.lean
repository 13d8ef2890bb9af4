/- PLAIN LEAN: the text of flags is read: words, their flags, all together; the laws of it. -/
import Derived.Test.YtbmpbkidjcaogaaDoorText
import Derived.Lib.IndexLaws
namespace Go.Proofs.YtbmpbkidjcaogaaDoor
set_option linter.unusedVariables false

/-- The words between blanks. -/
def wordsL : List UInt8 → List (List UInt8)
  | [] => [[]]
  | c :: r => if c = 32 then [] :: wordsL r else match wordsL r with | [] => [[c]] | h :: t => (c :: h) :: t
theorem wordsL_ne (l : List UInt8) : wordsL l ≠ [] := by
  cases l with
  | nil => simp [wordsL]
  | cons c r =>
    unfold wordsL
    split
    · simp
    · split <;> simp
theorem wordsL_none : ∀ (a : List UInt8), (∀ c ∈ a, c ≠ 32) → wordsL a = [a]
  | [], _ => rfl
  | c :: r, h => by
    have ih := wordsL_none r (fun x hx => h x (List.mem_cons_of_mem _ hx))
    unfold wordsL
    rw [if_neg (h c (List.mem_cons_self ..)), ih]
theorem wordsL_cut : ∀ (a r : List UInt8), (∀ c ∈ a, c ≠ 32) → wordsL (a ++ 32 :: r) = a :: wordsL r
  | [], r, _ => by rw [List.nil_append, wordsL, if_pos rfl]
  | c :: a, r, h => by
    have ih := wordsL_cut a r (fun x hx => h x (List.mem_cons_of_mem _ hx))
    rw [List.cons_append, wordsL, if_neg (h c (List.mem_cons_self ..)), ih]
theorem wordsL_app : ∀ (a r : List UInt8), wordsL (a ++ 32 :: r) = wordsL a ++ wordsL r
  | [], r => by show wordsL (32 :: r) = [] :: wordsL r; rw [wordsL, if_pos rfl]
  | c :: a, r => by
    have ih := wordsL_app a r
    rw [List.cons_append, wordsL, ih, wordsL]
    by_cases h : c = 32
    · rw [if_pos h, if_pos h]; rfl
    · rw [if_neg h, if_neg h]
      rcases hw : wordsL a with _ | ⟨x, t⟩
      · exact absurd hw (wordsL_ne a)
      · rfl
def lenW (ws : List (List UInt8)) : Nat := (ws.map fun w => w.length + 1).sum
theorem lenW_words : ∀ a : List UInt8, lenW (wordsL a) = a.length + 1
  | [] => rfl
  | c :: r => by
    have ih := lenW_words r
    rw [wordsL]
    by_cases h : c = 32
    · rw [if_pos h]; unfold lenW at *; simp [ih]; omega
    · rw [if_neg h]
      rcases hw : wordsL r with _ | ⟨x, t⟩
      · exact absurd hw (wordsL_ne r)
      · rw [hw] at ih; unfold lenW at *; simp at *; omega
/-- The flag of a name, or 0. -/
def flagL (l : List UInt8) : Nat := if l = nm 0 then 1 else if l = nm 1 then 2 else if l = nm 2 then 4 else if l = nm 3 then 8 else if l = nm 4 then 16 else 0
theorem flagL_cases (l : List UInt8) : (flagL l = 0 ∧ ∀ k, k < 5 → l ≠ nm k) ∨ ∃ k, k < 5 ∧ l = nm k ∧ flagL l = 2 ^ k := by
  unfold flagL
  split
  · next h => exact .inr ⟨0, by omega, h, rfl⟩
  · split
    · next h => exact .inr ⟨1, by omega, h, rfl⟩
    · split
      · next h => exact .inr ⟨2, by omega, h, rfl⟩
      · split
        · next h => exact .inr ⟨3, by omega, h, rfl⟩
        · split
          · next h => exact .inr ⟨4, by omega, h, rfl⟩
          · next h0 h1 h2 h3 h4 =>
            refine .inl ⟨rfl, fun k hk => ?_⟩
            have : k = 0 ∨ k = 1 ∨ k = 2 ∨ k = 3 ∨ k = 4 := by omega
            rcases this with rfl | rfl | rfl | rfl | rfl <;> assumption
theorem flagL_nm {k : Nat} (hk : k < 5) : flagL (nm k) = 2 ^ k := by
  have : k = 0 ∨ k = 1 ∨ k = 2 ∨ k = 3 ∨ k = 4 := by omega
  rcases this with rfl | rfl | rfl | rfl | rfl <;> rfl
theorem flagL_lt (l : List UInt8) : flagL l < 32 := by
  rcases flagL_cases l with ⟨h, _⟩ | ⟨k, hk, _, h⟩
  · omega
  · rw [h]; have : k = 0 ∨ k = 1 ∨ k = 2 ∨ k = 3 ∨ k = 4 := by omega
    rcases this with rfl | rfl | rfl | rfl | rfl <;> decide
/-- A further word. -/
def addW (f : Nat) (w : List UInt8) : Option Nat := if flagL w = 0 ∨ f &&& flagL w ≠ 0 then none else some (f ||| flagL w)
def foldW (f : Nat) : List (List UInt8) → Option Nat
  | [] => some f
  | w :: r => match addW f w with | none => none | some g => foldW g r
theorem foldW_app : ∀ (f : Nat) (a b : List (List UInt8)), foldW f (a ++ b) = (foldW f a).bind fun g => foldW g b
  | f, [], b => rfl
  | f, w :: a, b => by
    rw [List.cons_append, foldW, foldW]
    rcases addW f w with _ | g
    · rfl
    · exact foldW_app g a b
theorem foldW_snoc (f : Nat) (a : List (List UInt8)) (w : List UInt8) : foldW f (a ++ [w]) = (foldW f a).bind fun g => addW g w := by
  rw [foldW_app]
  congr 1
  funext g
  rw [foldW]
  rcases addW g w with _ | x <;> rfl
theorem addW_lt {f g : Nat} {w : List UInt8} (hf : f < 32) (h : addW f w = some g) : g < 32 := by
  unfold addW at h
  split at h
  · cases h
  · cases h; exact Nat.or_lt_two_pow (n := 5) hf (flagL_lt w)
theorem foldW_lt : ∀ {f g : Nat} {ws : List (List UInt8)}, f < 32 → foldW f ws = some g → g < 32
  | f, g, [], hf, h => by cases h; exact hf
  | f, g, w :: r, hf, h => by
    rw [foldW] at h
    rcases ha : addW f w with _ | x
    · rw [ha] at h; cases h
    · rw [ha] at h; exact foldW_lt (addW_lt hf ha) h
/-- The reference reckons with / and +. -/
theorem bit_d : ∀ f, f < 32 → (∀ k, k < 5 → ((f &&& 2 ^ k ≠ 0) ↔ f / 2 ^ k % 2 = 1) ∧ (f &&& 2 ^ k = 0 → f ||| 2 ^ k = f + 2 ^ k)) := by decide +kernel
theorem addW_ref {f : Nat} (hf : f < 32) (w : List UInt8) : addW f w = if flagL w = 0 ∨ f / flagL w % 2 = 1 then none else some (f + flagL w) := by
  unfold addW
  rcases flagL_cases w with ⟨h, _⟩ | ⟨k, hk, _, h⟩
  · simp [h]
  · have hp : flagL w ≠ 0 := by rw [h]; exact Nat.ne_of_gt (Nat.pow_pos (by omega))
    obtain ⟨d1, d2⟩ := bit_d f hf k hk
    rw [h] at hp ⊢
    by_cases hb : f &&& 2 ^ k = 0
    · rw [if_neg (by simp [hb]), if_neg (by rw [← d1]; simp [hb]), d2 hb]
    · rw [if_pos (.inr hb), if_pos (.inr (d1.1 hb))]
/-- The text of flags. -/
def innerL (t : List UInt8) : Option (List UInt8) := if 2 ≤ t.length ∧ t.head? = some 40 ∧ t.getLast? = some 41 then some ((t.drop 1).dropLast) else none
def parseL (t : List UInt8) : Nat × Bool :=
  match innerL t with
  | none => (0, false)
  | some [] => (0, true)
  | some (c :: r) => match foldW 0 (wordsL (c :: r)) with | none => (0, false) | some f => (f, true)
theorem parse_none {t : List UInt8} (h : innerL t = none) : parseL t = (0, false) := by simp [parseL, h]
theorem parse_nil {t : List UInt8} (h : innerL t = some []) : parseL t = (0, true) := by simp [parseL, h]
theorem parse_some {t i : List UInt8} (h : innerL t = some i) (hi : i ≠ []) : parseL t = (match foldW 0 (wordsL i) with | none => (0, false) | some f => (f, true)) := by
  cases i with
  | nil => exact absurd rfl hi
  | cons c r => simp [parseL, h]
theorem parse_lt (t : List UInt8) : (parseL t).1 < 32 := by
  unfold parseL
  split
  · show 0 < 32; omega
  · show 0 < 32; omega
  · split
    · show 0 < 32; omega
    · next f h => exact foldW_lt (by omega) h
theorem inner_of (i : List UInt8) : innerL (40 :: (i ++ [41])) = some i := by
  unfold innerL
  rw [if_pos ⟨by simp, rfl, by rw [← List.cons_append, List.getLast?_concat]⟩]
  simp
theorem inner_is {t i : List UInt8} (h : innerL t = some i) : t = 40 :: (i ++ [41]) := by
  unfold innerL at h
  split at h
  · next hh =>
    obtain ⟨h2, h0, h1⟩ := hh
    match t, h0 with
    | c :: r, h0 =>
      simp only [List.head?_cons, Option.some.injEq] at h0
      subst h0
      cases h
      have hr : r ≠ [] := by intro e; subst e; simp at h2
      rw [List.getLast?_cons_of_ne_nil hr] at h1
      have h3 : r.getLast hr = 41 := by
        first
        | (rw [List.getLast?_eq_some_getLast hr] at h1; exact Option.some.inj h1)
        | (rw [List.getLast?_eq_getLast hr] at h1; exact Option.some.inj h1)
      have h4 := List.dropLast_concat_getLast hr
      rw [h3] at h4
      simp [h4]
  · cases h
/-! The laws. -/
/-- A text that was read, with a further name that it lacks. -/
theorem parse_seen {t : List UInt8} {f : Nat} (h : parseL t = (f, true)) (hf : f ≠ 0) (he : f % 2 = 0) : parseL (t.dropLast ++ [32, 83, 101, 101, 110, 41]) = (f + 1, true) := by
  rcases hi : innerL t with _ | i
  · rw [parse_none hi] at h; cases h
  · have ht := inner_is hi
    by_cases hn : i = []
    · subst hn; rw [parse_nil hi] at h; cases h; exact absurd rfl hf
    · rw [parse_some hi hn] at h
      rcases hw : foldW 0 (wordsL i) with _ | g
      · rw [hw] at h; cases h
      · rw [hw] at h
        obtain rfl : g = f := by simpa using h
        have e : t.dropLast ++ [32, 83, 101, 101, 110, 41] = 40 :: ((i ++ 32 :: nm 0) ++ [41]) := by
          rw [ht, ← List.cons_append, List.dropLast_concat]
          simp [nm]
        have hlt := foldW_lt (by omega) hw
        rw [e, parse_some (inner_of _) (by simp), wordsL_app, show wordsL (nm 0) = [nm 0] from by decide, foldW_snoc, hw]
        show (match addW g (nm 0) with | none => (0, false) | some f => (f, true)) = _
        rw [addW_ref hlt, flagL_nm (by omega), if_neg (by simp; omega)]
theorem fold_has : ∀ {f g : Nat} {w : List UInt8} {ws : List (List UInt8)}, f < 32 → foldW f (w :: ws) = some g → g &&& flagL w ≠ 0 := by
  have key : ∀ (ws : List (List UInt8)) (f g x : Nat), foldW f ws = some g → f &&& x ≠ 0 → g &&& x ≠ 0 := by
    intro ws
    induction ws with
    | nil => intro f g x h hx; cases h; exact hx
    | cons w r ih =>
      intro f g x h hx
      rw [foldW] at h
      rcases ha : addW f w with _ | y
      · rw [ha] at h; cases h
      · rw [ha] at h
        refine ih y g x h ?_
        unfold addW at ha
        split at ha
        · cases ha
        · cases ha
          intro e
          rw [Nat.and_or_distrib_right] at e
          have := Nat.or_eq_zero_iff.1 e
          exact hx this.1
  intro f g w ws hf h
  rw [foldW] at h
  rcases ha : addW f w with _ | y
  · rw [ha] at h; cases h
  · rw [ha] at h
    refine key ws y g (flagL w) h ?_
    unfold addW at ha
    split at ha
    · cases ha
    · next hh =>
      cases ha
      intro e
      rw [Nat.and_or_distrib_right, Nat.and_self] at e
      have := (Nat.or_eq_zero_iff.1 e).2
      exact hh (.inl this)
/-- A text that was read, twice. -/
theorem parse_twice {t : List UInt8} {f : Nat} (h : parseL t = (f, true)) (hf : f ≠ 0) : (parseL (t.dropLast ++ [32] ++ t.drop 1)).2 = false := by
  rcases hi : innerL t with _ | i
  · rw [parse_none hi] at h; cases h
  · have ht := inner_is hi
    by_cases hn : i = []
    · subst hn; rw [parse_nil hi] at h; cases h; exact absurd rfl hf
    · rw [parse_some hi hn] at h
      rcases hw : foldW 0 (wordsL i) with _ | g
      · rw [hw] at h; cases h
      · have e : t.dropLast ++ [32] ++ t.drop 1 = 40 :: ((i ++ 32 :: i) ++ [41]) := by
          rw [ht, ← List.cons_append, List.dropLast_concat]
          simp
        rw [e, parse_some (inner_of _) (by simp), wordsL_app, foldW_app, hw]
        rcases hl : wordsL i with _ | ⟨w, r⟩
        · exact absurd hl (wordsL_ne i)
        · rw [hl] at hw
          have hh := fold_has (by omega) hw
          show (match foldW g (w :: r) with | none => (0, false) | some f => (f, true)).2 = false
          rw [foldW]
          have : addW g w = none := by unfold addW; rw [if_pos (.inr hh)]
          rw [this]
theorem text_d : ∀ f, f < 32 → parseL (txtTo f 5 ++ [41]) = (f, true) := by decide +kernel
/-- Written flags are read. -/
theorem parse_text {f : Int} (h : fok f = true) : parseL (flagsTxt f) = (f.toNat, true) := by
  have := (fok_iff f).1 h
  unfold flagsTxt
  rw [if_pos h]
  exact text_d _ (by omega)
def bitsLen (f : Nat) : Nat := (if f / 1 % 2 = 1 then 5 else 0) + (if f / 2 % 2 = 1 then 9 else 0) + (if f / 4 % 2 = 1 then 8 else 0) + (if f / 8 % 2 = 1 then 8 else 0) + (if f / 16 % 2 = 1 then 6 else 0)
theorem bitsLen_d : ∀ f, f < 32 → ∀ k, k < 5 → f / 2 ^ k % 2 = 0 → bitsLen (f + 2 ^ k) = bitsLen f + (nm k).length + 1 := by decide +kernel
theorem textLen_d : ∀ f, f < 32 → (txtTo f 5 ++ [41]).length = if f = 0 then 2 else bitsLen f + 1 := by decide +kernel
theorem fold_len : ∀ (ws : List (List UInt8)) (f g : Nat), f < 32 → foldW f ws = some g → bitsLen g = bitsLen f + lenW ws
  | [], f, g, _, h => by cases h; simp [lenW]
  | w :: r, f, g, hf, h => by
    rw [foldW] at h
    rcases ha : addW f w with _ | y
    · rw [ha] at h; cases h
    · rw [ha] at h
      have hy := addW_lt hf ha
      have ih := fold_len r y g hy h
      rw [addW_ref hf] at ha
      split at ha
      · cases ha
      · next hh =>
        cases ha
        rcases flagL_cases w with ⟨h0, _⟩ | ⟨k, hk, hw, h0⟩
        · exact absurd (.inl h0) hh
        · have hb : f / 2 ^ k % 2 = 0 := by
            rw [h0] at hh
            have : ¬ f / 2 ^ k % 2 = 1 := fun e => hh (.inr e)
            omega
          rw [h0, bitsLen_d f hf k hk hb, ← hw] at ih
          rw [ih]
          simp [lenW]; omega
/-- What was read is written as long. -/
theorem parse_len {t : List UInt8} {f : Nat} (h : parseL t = (f, true)) : (flagsTxt (f : Int)).length = t.length := by
  have hlt : f < 32 := by have := parse_lt t; rw [h] at this; exact this
  have hfl : flagsTxt (f : Int) = txtTo f 5 ++ [41] := by unfold flagsTxt; rw [if_pos (fok_nat hlt), Int.toNat_natCast]
  rw [hfl, textLen_d f hlt]
  rcases hi : innerL t with _ | i
  · rw [parse_none hi] at h; cases h
  · have ht := inner_is hi
    by_cases hn : i = []
    · subst hn; rw [parse_nil hi] at h; cases h; rw [ht]; rfl
    · rw [parse_some hi hn] at h
      rcases hw : foldW 0 (wordsL i) with _ | g
      · rw [hw] at h; cases h
      · rw [hw] at h
        obtain rfl : g = f := by simpa using h
        have hl := fold_len _ 0 g (by omega) hw
        rw [lenW_words, show bitsLen 0 = 0 from rfl] at hl
        have h0 : g ≠ 0 := by intro e; rw [e, show bitsLen 0 = 0 from rfl] at hl; omega
        rw [if_neg h0, hl, ht]; simp
theorem parse_back {t : List UInt8} {f : Nat} (h : parseL t = (f, true)) : parseL (flagsTxt (f : Int)) = (f, true) := by
  have hlt : f < 32 := by have := parse_lt t; rw [h] at this; exact this
  have := parse_text (fok_nat hlt)
  rwa [Int.toNat_natCast] at this
end Go.Proofs.YtbmpbkidjcaogaaDoor

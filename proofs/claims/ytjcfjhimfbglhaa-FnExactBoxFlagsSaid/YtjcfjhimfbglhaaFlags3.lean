/- WALKS: the program's change of flags (a closure chosen by a number, then called), and whether flags contain others, in the program and in the reference. -/
import Derived.Test.YtjcfjhimfbglhaaFlags2
namespace Go.Proofs.Ytjcfjhimfbglhaa
open Go.RowKit

theorem i64_or : ∀ f : Nat, f < 32 → ∀ o : Nat, o < 32 → bits .or .i64 (f : Int) (o : Int) = ((f ||| o : Nat) : Int) := by decide +kernel
theorem i64_and : ∀ f : Nat, f < 32 → ∀ o : Nat, o < 32 → bits .and .i64 (f : Int) (o : Int) = ((f &&& o : Nat) : Int) := by decide +kernel
theorem i64_andNot : ∀ f : Nat, f < 32 → ∀ o : Nat, o < 32 → bits .andNot .i64 (f : Int) (o : Int) = ((f &&& (31 ^^^ o) : Nat) : Int) := by decide +kernel
theorem or_same : ∀ f : Nat, f < 32 → ∀ o : Nat, o < 32 → (((f ||| o) == f) = ((f &&& o) == o)) := by decide +kernel

theorem implFlagsChange_bad (f how o : Int) (h : fok f = false ∨ fok o = false ∨ hok how = false) (w : World) :
    Calls Try.prog 57 #[.int .i64 f, .int .i64 how, .int .i64 o] w fun e w' => e = .returned (.int .i64 (-1)) ∧ Below w.heap.size w w' := by
  have q1 := fun (w : World) (fn : Fn) (fi ca : Array Value) => run_eql_func_nil (P := Try.prog) w 77 fn fi ca Try.underlying77
  have q2 := fun (w : World) => run_eql_nil_func (P := Try.prog) w 77 Try.underlying77
  have hw : how = 1 ∨ how = 0 ∨ how = -1 ∨ (hok how = false ∧ (how == 1) = false ∧ (how == 0) = false ∧ (how == -1) = false) := by
    by_cases h1 : how = 1
    · exact .inl h1
    by_cases h2 : how = 0
    · exact .inr (.inl h2)
    by_cases h3 : how = -1
    · exact .inr (.inr (.inl h3))
    refine .inr (.inr (.inr ⟨?_, by simpa using h1, by simpa using h2, by simpa using h3⟩))
    simp [hok]; omega
  rcases hw with rfl | rfl | rfl | ⟨-, e1, e2, e3⟩
  iterate 3
    · rcases hf : fok f with _ | _
      · clear h
        go_enter Try.func57, Try.ntmps57
        go_wp2_with fail
        go_in
        go_wp2_with (first | (go_at_call 67; refine (flagsValid_any _ _).mono ?_; rintro e w' ⟨rfl, rfl⟩))
        go_ret
        exact ⟨rfl, (Below.refl _ _).alloc (Nat.le_refl _) _⟩
      · have ho : fok o = false := by simpa [hf, hok] using h
        clear h
        go_enter Try.func57, Try.ntmps57
        go_wp2_with fail
        go_in
        go_wp2_with (first | (go_at_call 67; refine (flagsValid_any _ _).mono ?_; rintro e w' ⟨rfl, rfl⟩))
        go_ret
        exact ⟨rfl, (Below.refl _ _).alloc (Nat.le_refl _) _⟩
  · clear h
    go_enter Try.func57, Try.ntmps57
    go_wp2
    go_ret
    exact ⟨rfl, (Below.refl _ _).alloc (Nat.le_refl _) _⟩

theorem implFlagsChange_fine (f how o : Int) (hf : fok f = true) (ho : fok o = true) (hh : hok how = true) (w : World) :
    Calls Try.prog 57 #[.int .i64 f, .int .i64 how, .int .i64 o] w fun e w' => e = .returned (.int .i64 (chg how f.toNat o.toNat : Nat)) ∧ Below w.heap.size w w' := by
  have q1 := fun (w : World) (fn : Fn) (fi ca : Array Value) => run_eql_func_nil (P := Try.prog) w 77 fn fi ca Try.underlying77
  have b1 := (fok_iff f).1 hf
  have b2 := (fok_iff o).1 ho
  have hw : how = 1 ∨ how = 0 ∨ how = -1 := by simp [hok] at hh; omega
  obtain ⟨a, rfl⟩ := Int.eq_ofNat_of_zero_le b1.1
  obtain ⟨c, rfl⟩ := Int.eq_ofNat_of_zero_le b2.1
  have x1 := i64_or a (by omega) c (by omega)
  have x2 := i64_andNot a (by omega) c (by omega)
  have X1 := Lib.hid x1; have X2 := Lib.hid x2
  clear hh b1 b2 x1 x2
  rcases hw with rfl | rfl | rfl
  all_goals
    go_enter Try.func57, Try.ntmps57
    go_wp2_with fail
    go_in
    go_wp2_with (first | (go_at_call 67; refine (flagsValid_any _ _).mono ?_; rintro e w' ⟨rfl, rfl⟩))
    go_in
    go_wp2
    go_ret
    refine ⟨ret_int ?_, (Below.refl _ _).alloc (Nat.le_refl _) _⟩
    first | rfl | (rw [X1.out]; rfl) | (rw [X2.out]; rfl)

theorem implFlagsChange_any (f how o : Int) (w : World) :
    Calls Try.prog 57 #[.int .i64 f, .int .i64 how, .int .i64 o] w fun e w' => e = .returned (.int .i64 (changed f how o)) ∧ Below w.heap.size w w' := by
  by_cases h : fok f = true ∧ fok o = true ∧ hok how = true
  · obtain ⟨hf, ho, hh⟩ := h
    have hc : changed f how o = (chg how f.toNat o.toNat : Nat) := by simp [changed, hf, ho, hh]
    rw [hc]; exact implFlagsChange_fine f how o hf ho hh w
  · have hc : changed f how o = -1 := by
      unfold changed; rw [if_neg]; simpa using h
    rw [hc]; exact implFlagsChange_bad f how o (by revert h; cases fok f <;> cases fok o <;> cases hok how <;> simp) w
theorem implFlagsHave_any (f o : Int) (w : World) :
    Calls Try.prog 52 #[.int .i64 f, .int .i64 o] w fun e w' => e = .returned (.bool (haveB f o)) ∧ w = w' := by
  rcases hf : fok f with _ | _
  · have hc : haveB f o = false := by simp [haveB, hf]
    have HC := Lib.hid hc; clear hc
    go_enter Try.func52, Try.ntmps52
    go_wp2_with (go_at_call 67; refine (flagsValid_any _ _).mono ?_; rintro e w' ⟨rfl, rfl⟩)
    go_ret
    exact ⟨by rw [HC.out]; rfl, rfl⟩
  · rcases ho : fok o with _ | _
    · have hc : haveB f o = false := by simp [haveB, ho]
      have HC := Lib.hid hc; clear hc
      go_enter Try.func52, Try.ntmps52
      go_wp2_with (go_at_call 67; refine (flagsValid_any _ _).mono ?_; rintro e w' ⟨rfl, rfl⟩)
      go_ret
      exact ⟨by rw [HC.out]; rfl, rfl⟩
    · have b1 := (fok_iff f).1 hf
      have b2 := (fok_iff o).1 ho
      obtain ⟨a, rfl⟩ := Int.eq_ofNat_of_zero_le b1.1
      obtain ⟨c, rfl⟩ := Int.eq_ofNat_of_zero_le b2.1
      have x1 := i64_and a (by omega) c (by omega)
      have hc : haveB (a : Int) (c : Int) = (((a &&& c : Nat) : Int) == (c : Int)) := by
        simp only [haveB, hf, ho, Int.toNat_natCast, Bool.true_and]
        rw [Bool.eq_iff_iff]; simp; omega
      rw [← x1] at hc
      have HC := Lib.hid hc; clear hc b1 b2 x1
      go_enter Try.func52, Try.ntmps52
      go_wp2_with (go_at_call 67; refine (flagsValid_any _ _).mono ?_; rintro e w' ⟨rfl, rfl⟩)
      go_ret
      exact ⟨by rw [HC.out]; rfl, rfl⟩
end Go.Proofs.Ytjcfjhimfbglhaa

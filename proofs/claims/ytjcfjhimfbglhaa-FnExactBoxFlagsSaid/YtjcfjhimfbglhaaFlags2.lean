/- WALKS: the reference's change of flags, bit by bit; the program's; what both come to. -/
import Derived.Test.YtjcfjhimfbglhaaFlags
namespace Go.Proofs.Ytjcfjhimfbglhaa
open Go.RowKit

theorem l4Bit_at (k : Int) (b : Nat) (h0 : 0 ≤ k) (hk : k < 5) (h : b = 2 ^ k.toNat) (w : World) :
    Calls Try.prog 76 #[.int .i64 k] w fun e w' => e = .returned (.int .i64 b) ∧ Below w.heap.size w w' := by
  subst h; exact l4Bit_any k h0 hk w

theorem mod2_cases (f b : Nat) : ((f : Int) / (b : Int) % 2 = 0 ∧ f / b % 2 = 0) ∨ ((f : Int) / (b : Int) % 2 = 1 ∧ f / b % 2 = 1) := by
  rcases Nat.mod_two_eq_zero_or_one (f / b) with h | h
  · exact .inl ⟨by exact_mod_cast h, h⟩
  · exact .inr ⟨by exact_mod_cast h, h⟩
theorem div_bd (f b : Nat) (hf : f < 32) : 0 ≤ (f : Int) / (b : Int) ∧ (f : Int) / (b : Int) ≤ 31 := by
  have h := Int.ediv_le_self (b : Int) (Int.natCast_nonneg f)
  exact ⟨Int.ediv_nonneg (Int.natCast_nonneg _) (Int.natCast_nonneg _), by omega⟩
theorem chgTo_step {how : Int} {f o n b : Nat} (hb : 2 ^ n = b) {x y : Nat} (hx : f / b % 2 = x) (hy : o / b % 2 = y) (z : Bool) (hz : bitOn how x y = z) :
    chgTo how f o (n + 1) = chgTo how f o n + if z then b else 0 := by
  simp only [chgTo, hb, hx, hy, hz]

set_option maxHeartbeats 400000 in
theorem l4Change_loop (f o : Nat) (how : Int) (hf : f < 32) (ho : o < 32) (hh : how = 1 ∨ how = 0 ∨ how = -1) (w : World) :
    Calls Try.prog 62 #[.int .i64 f, .int .i64 how, .int .i64 o] w fun e w' => e = .returned (.int .i64 (chgTo how f o 5 : Nat)) ∧ Below w.heap.size w w' := by
  obtain ⟨y1, y2, y3, he⟩ : ∃ y1 y2 y3 : Bool, (how == 1) = y1 ∧ (how == 0) = y2 ∧ (how == -1) = y3 := ⟨_, _, _, rfl, rfl, rfl⟩
  have hb3 : (y1 = true ∧ y2 = false ∧ y3 = false) ∨ (y1 = false ∧ y2 = true ∧ y3 = false) ∨ (y1 = false ∧ y2 = false ∧ y3 = true) := by
    obtain ⟨rfl, rfl, rfl⟩ := he
    rcases hh with rfl | rfl | rfl <;> simp
  obtain ⟨e1, e2, e3⟩ := he
  clear hh
  rcases hb3 with ⟨rfl, rfl, rfl⟩ | ⟨rfl, rfl, rfl⟩ | ⟨rfl, rfl, rfl⟩
  all_goals
    go_enter Try.func62, Try.ntmps62
    go_wp2
    go_loopw [7, 8] (fun out k wr => ∃ n t : Nat, n ≤ 5 ∧ k = .int .i64 n ∧ out = .int .i64 t ∧ t < 2 ^ n ∧ Hid (t = chgTo how f o n) ∧ Below w.heap.size w wr) (fun _ k _ => 5 - (intOf k).toNat)
    case atStart => exact ⟨0, 0, by omega, rfl, rfl, by omega, rfl, Below.refl _ _⟩
    case round =>
      obtain ⟨n, t, hn, rfl, rfl, ht, HT, hb⟩ := hrel
      by_cases hlt : n < 5
      · have hp2 : 2 ^ n ≤ 16 := Nat.pow_le_pow_right (by omega) (show n ≤ 4 by omega)
        have hp1 : 1 ≤ 2 ^ n := Nat.one_le_two_pow
        have hE : (2 ^ n = 2 ^ (n : Int).toNat) := by simp
        obtain ⟨b, hbe⟩ : ∃ b, 2 ^ n = b := ⟨_, rfl⟩
        have hps : 2 ^ (n + 1) = b + b := by rw [Nat.pow_succ, hbe]; omega
        rw [hbe] at ht hp2 hp1 hE
        have HB := Lib.hid hbe; have HE := Lib.hid hE; have HP := Lib.hid hps; clear hbe hE hps
        have d1 := div_bd f b hf
        have d2 := div_bd o b ho
        obtain ⟨d11, d12⟩ := d1
        obtain ⟨d21, d22⟩ := d2
        rcases mod2_cases f b with ⟨m1, x1⟩ | ⟨m1, x1⟩ <;> rcases mod2_cases o b with ⟨m2, x2⟩ | ⟨m2, x2⟩
        all_goals
          have hs := chgTo_step (how := how) HB.out x1 x2 _ rfl
          simp [bitOn, e1, e2, e3] at hs
          have X1 := Lib.hid x1; have X2 := Lib.hid x2; have HS := Lib.hid hs; clear x1 x2 hs
          go_wp2_with (go_at_call 76; refine (l4Bit_at _ b (by omega) (by omega) HE.out _).mono ?_; rintro e w' ⟨rfl, hb1⟩; replace hb := hb.trans (hb1.mono hb.size); clear hb1)
          go_roundw
          case rel => first
            | exact ⟨n + 1, t, by omega, by go_num, rfl, by rw [HP.out]; omega, by show t = _; rw [HS.out, ← HT.out], hb⟩
            | exact ⟨n + 1, t + b, by omega, by go_num, by go_num, by rw [HP.out]; omega, by show t + b = _; rw [HS.out, ← HT.out], hb⟩
          case measure => simp [intOf]; omega
      · go_wp2
        go_ret
        have : n = 5 := by omega
        subst this
        exact ⟨by rw [HT.out]; rfl, hb⟩

theorem l4Change_any (f how o : Int) (hf : fok f = true) (ho : fok o = true) (hh : hok how = true) (w : World) :
    Calls Try.prog 62 #[.int .i64 f, .int .i64 how, .int .i64 o] w fun e w' => e = .returned (.int .i64 (chg how f.toNat o.toNat : Nat)) ∧ Below w.heap.size w w' := by
  rw [fok_iff] at hf ho
  obtain ⟨a, rfl⟩ := Int.eq_ofNat_of_zero_le hf.1
  obtain ⟨b, rfl⟩ := Int.eq_ofNat_of_zero_le ho.1
  have h := l4Change_loop a b how (by omega) (by omega) (by simp [hok] at hh; omega) w
  rw [chgTo_chg how hh a b (by omega) (by omega)] at h
  exact h
end Go.Proofs.Ytjcfjhimfbglhaa

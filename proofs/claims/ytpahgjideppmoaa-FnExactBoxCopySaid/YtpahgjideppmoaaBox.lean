/- WALKS: when a mailbox is valid, in the program and in the reference. -/
import Derived.Test.YtpahgjideppmoaaFlags
import Derived.Test.YtpahgjideppmoaaBoxPlain
import Derived.Handy
namespace Go.Proofs.Ytpahgjideppmoaa
open Go.RowKit
set_option linter.unusedVariables false

theorem two_cells {w : World} {b : Nat} {x y : Value} {t : TypeId} (h : w.heap[b]? = some (.cells #[x, y] t (0, 0))) :
    w.cell? ⟨b, 0, none⟩ = some x ∧ w.cell? ⟨b, 1, none⟩ = some y ∧ w.frozen? ⟨b, 0, none⟩ = false ∧ w.frozen? ⟨b, 1, none⟩ = false := by
  simp [World.cell?, World.frozen?, h]
/-- A slice of messages that can be read. -/
def MailAt (w : World) (v : Value) (l : List M) : Prop :=
  ∃ a n cap, v = .slice a n cap ∧ l.length = n ∧ n ≤ cap ∧ (n ≤ 4398046511104 ∧ (a = none → cap = 0)) ∧ (n = 0 ∨ ∃ b off, a = some ⟨b, off, none⟩ ∧ b < w.heap.size ∧
    ∀ i m, l[i]? = some m → w.cell? ⟨b, off + i * 3, none⟩ = some (.int .i64 m.uid) ∧ w.cell? ⟨b, off + i * 3 + 1, none⟩ = some (.int .i64 m.flags) ∧ w.cell? ⟨b, off + i * 3 + 2, none⟩ = some (.string m.text))
theorem MailAt.below {w w' : World} {v : Value} {l : List M} (h : MailAt w v l) (hb : Below w.heap.size w w') : MailAt w' v l := by
  obtain ⟨a, n, cap, rfl, hn, hc, hm, h⟩ := h
  refine ⟨a, n, cap, rfl, hn, hc, hm, ?_⟩
  rcases h with h | ⟨b, off, ha, hlt, h⟩
  · exact .inl h
  · refine .inr ⟨b, off, ha, by have := hb.size; omega, fun i m hi => ?_⟩
    obtain ⟨h0, h1, h2⟩ := h i m hi
    exact ⟨(hb.cell (p := ⟨b, _, none⟩) hlt).trans h0, (hb.cell (p := ⟨b, _, none⟩) hlt).trans h1, (hb.cell (p := ⟨b, _, none⟩) hlt).trans h2⟩
theorem MailAt.alloc {w : World} {v : Value} {l : List M} (h : MailAt w v l) (o : Obj) : MailAt (w.alloc o) v l := h.below ((Below.refl _ _).alloc (Nat.le_refl _) o)
/-- A mailbox as a value. -/
def BoxAt (w : World) (v : Value) (b : B) : Prop := ∃ s, v = .agg #[.int .i64 b.next, s] ∧ MailAt w s b.mail
theorem BoxAt.below {w w' : World} {v : Value} {b : B} (h : BoxAt w v b) (hb : Below w.heap.size w w') : BoxAt w' v b := by
  obtain ⟨s, rfl, h⟩ := h
  exact ⟨s, rfl, h.below hb⟩

theorem mailValid_any (m : M) (w : World) :
    Calls Try.prog 31 #[.agg #[.int .i64 m.uid, .int .i64 m.flags, .string m.text]] w fun e w' => e = .returned (.bool (mok m)) ∧ Below w.heap.size w w' := by
  obtain ⟨u, f, s⟩ := m
  dsimp only
  have hk : mok ⟨u, f, s⟩ = (decide (1 ≤ u) && decide (u ≤ 99) && fok f && decide (s.size ≤ 20)) := rfl
  have HK := Lib.hid hk
  clear hk
  by_cases h1 : 1 ≤ u
  · by_cases h2 : u ≤ 99
    · rcases hf : fok f with _ | _
      · go_enter Try.func31, Try.ntmps31
        go_wp2_with (go_at_call 36; refine (flagsValid_any _ _).mono ?_; rintro e w' ⟨rfl, rfl⟩)
        go_ret
        exact ⟨ret_bool (by rw [HK.out]; simp [hf]), by go_grown⟩
      · go_enter Try.func31, Try.ntmps31
        go_wp2_with (go_at_call 36; refine (flagsValid_any _ _).mono ?_; rintro e w' ⟨rfl, rfl⟩)
        all_goals go_ret
        all_goals exact ⟨ret_bool (by rw [HK.out]; simp [hf, h1, h2]; omega), by go_grown⟩
    · go_enter Try.func31, Try.ntmps31
      go_wp2_with fail
      go_ret
      exact ⟨ret_bool (by rw [HK.out]; simp; intros; omega), by go_grown⟩
  · go_enter Try.func31, Try.ntmps31
    go_wp2_with fail
    go_ret
    exact ⟨ret_bool (by rw [HK.out]; simp; intros; omega), by go_grown⟩
theorem l11Mail_any (m : M) (w : World) :
    Calls Try.prog 32 #[.agg #[.int .i64 m.uid, .int .i64 m.flags, .string m.text]] w fun e w' => e = .returned (.bool (mok m)) ∧ Below w.heap.size w w' := by
  obtain ⟨u, f, s⟩ := m
  dsimp only
  have hk : mok ⟨u, f, s⟩ = (decide (1 ≤ u) && decide (u ≤ 99) && fok f && decide (s.size ≤ 20)) := rfl
  have HK := Lib.hid hk
  clear hk
  rcases hu : (decide (1 ≤ u) && decide (u ≤ 99)) with _ | _
  · go_enter Try.func32, Try.ntmps32
    go_wp2_with fail
    refine (l6In_any _ _ _ _).mono ?_
    rintro e w' ⟨rfl, rfl⟩
    rw [hu]
    go_wp2_with fail
    go_ret
    exact ⟨ret_bool (by rw [HK.out, hu]; simp), by go_grown⟩
  · rcases hf : fok f with _ | _
    · go_enter Try.func32, Try.ntmps32
      go_wp2_with fail
      refine (l6In_any _ _ _ _).mono ?_
      rintro e w' ⟨rfl, rfl⟩
      rw [hu]
      go_wp2_with (go_at_call 46; refine (l4Flags_any _ _).mono ?_; rintro e w' ⟨rfl, rfl⟩)
      go_ret
      exact ⟨ret_bool (by rw [HK.out, hu, hf]; simp), by go_grown⟩
    · go_enter Try.func32, Try.ntmps32
      go_wp2_with fail
      refine (l6In_any _ _ _ _).mono ?_
      rintro e w' ⟨rfl, rfl⟩
      rw [hu]
      go_wp2_with (go_at_call 46; refine (l4Flags_any _ _).mono ?_; rintro e w' ⟨rfl, rfl⟩)
      all_goals go_ret
      all_goals exact ⟨ret_bool (by rw [HK.out, hu, hf]; simp; omega), by go_grown⟩
set_option maxHeartbeats 400000 in
theorem implBoxValid_any (b : B) (v : Value) (w : World) (hb : BoxAt w v b) :
    Calls Try.prog 16 #[v] w fun e w' => e = .returned (.bool (bok b)) ∧ Below w.heap.size w w' := by
  obtain ⟨s, rfl, a, L, cap, rfl, hL, hcap, ⟨hmax, hnil⟩, hmail⟩ := hb
  clear hnil
  have HL := Lib.hid hL
  by_cases h10 : 10 < L
  · have hk := bok_long (by omega : 10 < b.mail.length)
    have HK := Lib.hid hk
    clear hk hmail hL
    go_enter Try.func16, Try.ntmps16
    go_wp2_with fail
    go_ret
    exact ⟨ret_bool HK.out.symm, by go_grown⟩
  · obtain ⟨w1, hw1⟩ : ∃ w1, w1 = w.alloc (.cells #[.int .i64 b.next, .slice a L cap] 29) := ⟨_, rfl⟩
    have hbel : Below w.heap.size w w1 := by rw [hw1]; exact (Below.refl _ _).alloc (Nat.le_refl _) _
    have hn : w1.cell? ⟨w.heap.size, 0, none⟩ = some (.int .i64 b.next) := by rw [hw1]; exact cell_of_block (heap_alloc_new w _) rfl
    have hz : w.heap.size < w1.heap.size := by rw [hw1]; simp
    have HW := Lib.hid hw1
    clear hw1 hL
    go_enter Try.func16, Try.ntmps16
    go_wp2_with fail
    rw [← HW.out]
    go_loopw [3, 13] (fun x i wr => ∃ (n : Nat) (y : Int), n ≤ L ∧ i = .int .i64 n ∧ x = .int .i64 y ∧ 0 ≤ y ∧ y ≤ 99 ∧ Hid (asc 0 (b.mail.take n) = some y) ∧ Below w1.heap.size w1 wr) (fun _ i _ => L - (intOf i).toNat)
    case atStart => exact ⟨0, 0, by omega, rfl, rfl, by omega, by omega, rfl, Below.refl _ _⟩
    case round =>
      obtain ⟨n, y, hnL, rfl, rfl, hy0, hy1, HA, hq⟩ := hrel
      by_cases hlt : n < L
      · rcases hmail with h0 | ⟨g, off, rfl, hg, hcells⟩
        · omega
        have hlt' : n < b.mail.length := by rw [HL.out]; exact hlt
        obtain ⟨c0, c1, c2⟩ := hcells n _ (List.getElem?_eq_getElem hlt')
        have k : ∀ o v, w.cell? ⟨g, o, none⟩ = some v → wr.cell? ⟨g, o, none⟩ = some v := fun o v h => (hq.cell (p := ⟨g, o, none⟩) (by show g < _; omega)).trans ((hbel.cell (p := ⟨g, o, none⟩) hg).trans h)
        have c0 := k _ _ c0
        have c1 := k _ _ c1
        have c2 := k _ _ c2
        clear k hcells hn
        have K := mailValid_any b.mail[n]
        have hyes := asc_yes hlt' HA.out
        have hno := asc_no hlt' HA.out
        obtain ⟨m, hm⟩ : ∃ m, b.mail[n] = m := ⟨_, rfl⟩
        rw [hm] at c0 c1 c2 K hyes hno
        have HK := Lib.hid K; have HY := Lib.hid hyes; have HN := Lib.hid hno
        clear hm K hyes hno
        go_wp2_with fail
        refine (HK.out _).mono ?_
        rintro e w2 ⟨rfl, q2⟩
        have d0 : w2.cell? ⟨wr.heap.size, 0, none⟩ = some (.int .i64 m.uid) := (q2.cell (p := ⟨wr.heap.size, 0, none⟩) (by simp)).trans (cell_of_block (heap_alloc_new wr _) rfl)
        have q3 : Below w1.heap.size w1 w2 := (hq.alloc hq.size _).trans (q2.mono (by have := hq.size; simp; omega))
        have q4 : Below w.heap.size w w2 := hbel.trans (q3.mono hbel.size)
        clear c0 c1 c2 q2
        rcases hmk : mok m with _ | _
        · have hr := bok_none (HN.out (.inl hmk))
          have HR := Lib.hid hr
          clear hr hmk
          go_wp2_with fail
          go_ret
          exact ⟨ret_bool HR.out.symm, q4⟩
        · have hu := mok_uid hmk
          by_cases hlt2 : y < m.uid
          · have hr := HY.out hmk hlt2
            have HR := Lib.hid hr
            clear hr hmk
            go_wp2_with fail
            go_roundw
            case rel => exact ⟨n + 1, m.uid, by omega, by go_num, rfl, by omega, by omega, HR.out, q3⟩
            case measure => simp [intOf]; omega
          · have hr := bok_none (HN.out (.inr (by omega)))
            have HR := Lib.hid hr
            clear hr hmk
            go_wp2_with fail
            go_ret
            exact ⟨ret_bool HR.out.symm, q4⟩
      · have : n = L := by omega
        subst this
        have hA : asc 0 b.mail = some y := by rw [← HA.out, ← HL.out, List.take_length]
        have hr := bok_some hA
        have HR := Lib.hid hr
        have hl10 : b.mail.length ≤ 10 := by rw [HL.out]; omega
        have q4 : Below w.heap.size w wr := hbel.trans (hq.mono hbel.size)
        have d0 := (hq.cell (p := ⟨w.heap.size, 0, none⟩) hz).trans hn
        clear hr hn hA
        by_cases h1 : y < b.next
        · go_wp2_with fail
          all_goals go_ret
          all_goals exact ⟨ret_bool (by rw [HR.out]; simp [h1, hl10]), q4⟩
        · go_wp2_with fail
          go_ret
          exact ⟨ret_bool (by rw [HR.out]; simp; intros; omega), q4⟩
set_option maxHeartbeats 400000 in
theorem specBoxValid_any (b : B) (v : Value) (w : World) (hb : BoxAt w v b) :
    Calls Try.prog 17 #[v] w fun e w' => e = .returned (.bool (bok b)) ∧ Below w.heap.size w w' := by
  obtain ⟨s, rfl, a, L, cap, rfl, hL, hcap, ⟨hmax, hnil⟩, hmail⟩ := hb
  clear hnil
  have HL := Lib.hid hL
  obtain ⟨w1, hw1⟩ : ∃ w1, w1 = w.alloc (.cells #[.int .i64 b.next, .slice a L cap] 29) := ⟨_, rfl⟩
  have hbel : Below w.heap.size w w1 := by rw [hw1]; exact (Below.refl _ _).alloc (Nat.le_refl _) _
  have hn : w1.cell? ⟨w.heap.size, 0, none⟩ = some (.int .i64 b.next) := by rw [hw1]; exact cell_of_block (heap_alloc_new w _) rfl
  have hs : w1.cell? ⟨w.heap.size, 1, none⟩ = some (.slice a L cap) := by rw [hw1]; exact cell_of_block (heap_alloc_new w _) rfl
  have hz : w.heap.size < w1.heap.size := by rw [hw1]; simp
  have HW := Lib.hid hw1
  clear hw1 hL
  go_enter Try.func17, Try.ntmps17
  go_wp2_with fail
  rw [← HW.out]
  go_loopw [3, 4] (fun x i wr => ∃ (n : Nat) (y : Int), n ≤ L ∧ i = .int .i64 n ∧ x = .int .i64 y ∧ 0 ≤ y ∧ y ≤ 99 ∧ Hid (asc 0 (b.mail.take n) = some y) ∧ Below w1.heap.size w1 wr) (fun _ i _ => L - (intOf i).toNat)
  case atStart => exact ⟨0, 0, by omega, rfl, rfl, by omega, by omega, rfl, Below.refl _ _⟩
  case round =>
    obtain ⟨n, y, hnL, rfl, rfl, hy0, hy1, HA, hq⟩ := hrel
    have d0 := (hq.cell (p := ⟨w.heap.size, 0, none⟩) hz).trans hn
    have d1 := (hq.cell (p := ⟨w.heap.size, 1, none⟩) hz).trans hs
    clear hn hs
    by_cases hlt : n < L
    · rcases hmail with h0 | ⟨g, off, rfl, hg, hcells⟩
      · omega
      have hlt' : n < b.mail.length := by rw [HL.out]; exact hlt
      obtain ⟨c0, c1, c2⟩ := hcells n _ (List.getElem?_eq_getElem hlt')
      have k : ∀ o v, w.cell? ⟨g, o, none⟩ = some v → wr.cell? ⟨g, o, none⟩ = some v := fun o v h => (hq.cell (p := ⟨g, o, none⟩) (by show g < _; omega)).trans ((hbel.cell (p := ⟨g, o, none⟩) hg).trans h)
      have c0 := k _ _ c0
      have c1 := k _ _ c1
      have c2 := k _ _ c2
      clear k hcells
      have K := l11Mail_any b.mail[n]
      have hyes := asc_yes hlt' HA.out
      have hno := asc_no hlt' HA.out
      obtain ⟨m, hm⟩ : ∃ m, b.mail[n] = m := ⟨_, rfl⟩
      rw [hm] at c0 c1 c2 K hyes hno
      have HK := Lib.hid K; have HY := Lib.hid hyes; have HN := Lib.hid hno
      clear hm K hyes hno
      go_wp2_with fail
      refine (HK.out _).mono ?_
      rintro e w2 ⟨rfl, q2⟩
      have d2 : w2.cell? ⟨g, off + n * 3, none⟩ = some (.int .i64 m.uid) := (q2.cell (p := ⟨g, off + n * 3, none⟩) (World.block_lt_of_cell? _ _ c0)).trans c0
      have d3 := (q2.cell (p := ⟨w.heap.size, 1, none⟩) (World.block_lt_of_cell? _ _ d1)).trans d1
      have q3 : Below w1.heap.size w1 w2 := hq.trans (q2.mono hq.size)
      have q4 : Below w.heap.size w w2 := hbel.trans (q3.mono hbel.size)
      clear c0 c1 c2 q2 d0 d1
      rcases hmk : mok m with _ | _
      · have hr := bok_none (HN.out (.inl hmk))
        have HR := Lib.hid hr
        clear hr hmk
        go_wp2_with fail
        go_ret
        exact ⟨ret_bool HR.out.symm, q4⟩
      · have hu := mok_uid hmk
        by_cases hlt2 : y < m.uid
        · have hr := HY.out hmk hlt2
          have HR := Lib.hid hr
          clear hr hmk
          go_wp2_with fail
          go_roundw
          case rel => exact ⟨n + 1, m.uid, by omega, by go_num, rfl, by omega, by omega, HR.out, q3⟩
          case measure => simp [intOf]; omega
        · have hr := bok_none (HN.out (.inr (by omega)))
          have HR := Lib.hid hr
          clear hr hmk
          go_wp2_with fail
          go_ret
          exact ⟨ret_bool HR.out.symm, q4⟩
    · have : n = L := by omega
      subst this
      have hA : asc 0 b.mail = some y := by rw [← HA.out, ← HL.out, List.take_length]
      have hr := bok_some hA
      have HR := Lib.hid hr
      have q4 : Below w.heap.size w wr := hbel.trans (hq.mono hbel.size)
      clear hr hA
      rcases hin : (decide (y + 1 ≤ b.next) && decide (b.next ≤ 100)) with _ | _
      · go_wp2_with fail
        refine (l6In_any _ _ _ _).mono ?_
        rintro e w' ⟨rfl, rfl⟩
        rw [hin]
        go_wp2_with fail
        go_ret
        exact ⟨ret_bool (by rw [HR.out]; simp at hin; simp; intros; omega), q4⟩
      · go_wp2_with fail
        refine (l6In_any _ _ _ _).mono ?_
        rintro e w' ⟨rfl, rfl⟩
        rw [hin]
        have hin2 : y < b.next ∧ b.next ≤ 100 := by simp at hin; omega
        clear hin
        go_wp2_with fail
        go_ret
        exact ⟨ret_bool (by rw [HR.out, ← HL.out]; simp [hin2]; omega), q4⟩
end Go.Proofs.Ytpahgjideppmoaa

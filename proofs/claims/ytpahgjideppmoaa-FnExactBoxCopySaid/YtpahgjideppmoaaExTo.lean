/- WALKS: mailboxes that come in: their size; copies of them; equal ones are found equal. -/
import Derived.Test.YtpahgjideppmoaaExPlain
import Derived.Test.YtpahgjideppmoaaExpunge
import Derived.Test.YtpahgjideppmoaaSame
import Derived.Test.YtpahgjideppmoaaBoxCell
import Derived.IntWalk
import Derived.Deep.DrawnRows
import Derived.Laws.MakeOwn
namespace Go.Proofs.Ytpahgjideppmoaa
open Go.RowKit
set_option linter.unusedVariables false
attribute [local go_sem ↓] Go.wp_at_zero Go.wp_at_succ

def SomeInt (w : World) (e : Ending) (w' : World) : Prop := ∃ n : Int, e = .returned (.int .i64 n) ∧ Below w.heap.size w w'
theorem run_make_rowN {P : Program} (t e : TypeId) (i : TypeInfo) (z : Value) (ht : P.underlying t = some (.slice e)) (hi : P.info? e = some i) (hz : i.zero = some z)
    (kl kc : IntKind) (n c : Nat) (hnc : n ≤ c) (hbytes : i.bytes * c ≤ 281474976710656) (h63 : c ≤ 9223372036854775807) (w : World) :
    (Instr.makeSlice t (.int kl (n : Int)) (.int kc (c : Int))).run P w = .ok (.slice (some ⟨w.heap.size, 0, none⟩) n c) (w.alloc (.cells (madeCells z.cells (c * i.size)) e)) := by
  have hb : (i.bytes : Int) * (c : Int) ≤ 281474976710656 := by
    have h : ((i.bytes * c : Nat) : Int) ≤ 281474976710656 := by omega
    rwa [Int.natCast_mul] at h
  have hr := run_make (P := P) w t e i z ht hi hz kl kc n c (by omega) (by omega) hb (by omega)
  simp only [Int.toNat_natCast] at hr
  exact hr
def zM : M := ⟨0, 0, ⟨#[]⟩⟩
theorem made_at (z : Array Value) (n i : Nat) : (madeCells z n)[i]? = if i < n then some (z[i % z.size]!) else none := by
  unfold madeCells
  by_cases h : i < n
  · rw [if_pos h]; simp [h]
  · rw [if_neg h]; simp; omega
theorem rowOf_zeros : ∀ n : Nat, rowOf (List.replicate n zM) = (madeCells #[.int .i64 0, .int .i64 0, .string ⟨#[]⟩] (n * 3)).toList := by
  intro n
  apply List.ext_getElem?
  intro j
  have e : (madeCells #[.int .i64 0, .int .i64 0, .string ⟨#[]⟩] (n * 3)).toList[j]? = (madeCells #[.int .i64 0, .int .i64 0, .string ⟨#[]⟩] (n * 3))[j]? := Array.getElem?_toList
  rw [e, made_at]
  by_cases h : j < n * 3
  · rw [if_pos h]
    have hi : (List.replicate n zM)[j / 3]? = some zM := by rw [List.getElem?_replicate, if_pos (by omega)]
    obtain ⟨k0, k1, k2⟩ := rowOf_at _ _ _ hi
    have hm : j % 3 = 0 ∨ j % 3 = 1 ∨ j % 3 = 2 := by omega
    rcases hm with hm | hm | hm
    · rw [show j / 3 * 3 = j from by omega] at k0
      rw [k0]; simp [hm, zM]
    · rw [show j / 3 * 3 + 1 = j from by omega] at k1
      rw [k1]; simp [hm, zM]
    · rw [show j / 3 * 3 + 2 = j from by omega] at k2
      rw [k2]; simp [hm, zM]
  · rw [if_neg h, List.getElem?_eq_none]
    rw [rowOf_length]; simp; omega
theorem own_zeros (w : World) (n : Nat) (hn : n ≤ maxLen) : Own (w.alloc (.cells (madeCells #[.int .i64 0, .int .i64 0, .string ⟨#[]⟩] (n * 3)) 47)) w.heap.size (.slice (some ⟨w.heap.size, 0, none⟩) n n) (List.replicate n zM) := by
  unfold Own
  rw [List.length_replicate]
  refine ⟨by rw [rowOf_length, List.length_replicate], .inr ⟨w.heap.size, n, _, rfl, Nat.le_refl _, heap_alloc_new w _, Nat.le_refl _, hn, by rw [size_madeCells], ?_⟩⟩
  rw [rowOf_zeros, List.take_of_length_le]
  simp [size_madeCells]
/-- A row that is copied place by place. -/
def cpy (l : List M) (i : Nat) (_ : M) : M := l.getD i zM
theorem cpy_at {l : List M} {i : Nat} {m : M} (h : l[i]? = some m) (x : M) : cpy l i x = m := by simp [cpy, h]
theorem cpy_all (l : List M) : (List.replicate l.length zM).mapIdx (cpy l) = l := by
  apply List.ext_getElem?
  intro i
  rcases hx : l[i]? with _ | x
  · have : l.length ≤ i := List.getElem?_eq_none_iff.1 hx
    simp; omega
  · have : i < l.length := (List.getElem?_eq_some_iff.1 hx).1
    simp [this, cpy]
    exact (List.getElem?_eq_some_iff.1 hx).2

theorem szMail_any (m : M) (left : Int) (w : World) : Calls Try.prog 34 #[.agg #[.int .i64 m.uid, .int .i64 m.flags, .string m.text], .int .i64 left] w (SomeInt w) := by
  obtain ⟨u, f, s⟩ := m
  dsimp only
  go_enter Try.func34, Try.ntmps34
  go_wp2_with fail
  all_goals go_ret
  all_goals exact ⟨_, rfl, by go_grown⟩
set_option maxHeartbeats 400000 in
theorem szMailS_any (l : List M) (v : Value) (left : Int) (w : World) (h : MailAt w v l) (h0 : 0 ≤ left) (h1 : left ≤ 1048576) (hl : l.length ≤ 1048576) :
    Calls Try.prog 18 #[v, .int .i64 left] w (SomeInt w) := by
  obtain ⟨a, L, cap, rfl, hL, hc, _, hmail⟩ := h
  have HL := Lib.hid hL
  have hL1 : L ≤ 1048576 := by omega
  clear hL hl
  go_enter Try.func18, Try.ntmps18
  by_cases hneg : left - (L : Int) < 0
  · go_wp2_with fail
    go_ret
    exact ⟨_, rfl, by go_grown⟩
  · go_wp2_with fail
    go_loopw [1, 5] (fun lf i wr => ∃ (n : Nat) (x : Int), n ≤ L ∧ i = .int .i64 n ∧ lf = .int .i64 x ∧ Below w.heap.size w wr) (fun _ i _ => L - (intOf i).toNat)
    case atStart => exact ⟨0, _, by omega, rfl, rfl, Below.refl _ _⟩
    case round =>
      obtain ⟨n, x, hn, rfl, rfl, hq⟩ := hrel
      clear hneg
      by_cases hlt : n < L
      · rcases hmail with h0 | ⟨g, off, rfl, hg, hcells⟩
        · omega
        have hlt' : n < l.length := by rw [HL.out]; exact hlt
        have hm := List.getElem?_eq_getElem hlt'
        generalize l[n] = m at hm
        obtain ⟨c0, c1, c2⟩ := hcells n _ hm
        replace c0 := (hq.cell (p := ⟨g, _, none⟩) hg).trans c0
        replace c1 := (hq.cell (p := ⟨g, _, none⟩) hg).trans c1
        replace c2 := (hq.cell (p := ⟨g, _, none⟩) hg).trans c2
        clear hcells hm
        go_wp2_with fail
        refine (szMail_any m x _).mono ?_
        rintro e w2 ⟨y, rfl, q2⟩
        have q3 := hq.trans (q2.mono hq.size)
        clear c0 c1 c2 q2
        go_wp2_with fail
        · go_ret
          exact ⟨_, rfl, q3⟩
        · go_roundw
          case rel => exact ⟨n + 1, y, by omega, by go_num, rfl, q3⟩
          case measure => simp [intOf]; omega
      · clear hmail
        go_wp2_with fail
        go_ret
        exact ⟨_, rfl, hq⟩
theorem szMailS_big (a : Option Addr) (L cap : Nat) (left : Int) (w : World) (h0 : 0 ≤ left) (h1 : left ≤ 1048576) (hc : L ≤ cap) (hm : cap ≤ maxLen) (hl : 1048576 < L) :
    Calls Try.prog 18 #[.slice a L cap, .int .i64 left] w fun e w' => e = .returned (.int .i64 (-1)) ∧ w = w' := by
  unfold maxLen at hm
  have hz : left - (L : Int) < 0 := by omega
  go_enter Try.func18, Try.ntmps18
  go_wp2_with fail
  go_ret
  exact ⟨rfl, rfl⟩
theorem szBox_any (b : B) (v : Value) (left : Int) (w : World) (h : BoxAt w v b) (h0 : 0 ≤ left) (h1 : left ≤ 1048576) (hl : b.mail.length ≤ 1048576) :
    Calls Try.prog 5 #[v, .int .i64 left] w (SomeInt w) := by
  obtain ⟨s, rfl, k1⟩ := h
  have e1 := k1
  obtain ⟨a1, L, cap1, rfl, hL, hc1, _, hmail1⟩ := e1
  have K1 := Lib.hid k1
  clear hL hmail1 k1
  go_enter Try.func5, Try.ntmps5
  go_wp2_with fail
  refine (szMailS_any b.mail _ left _ (K1.out.below (by go_grown)) h0 h1 hl).mono ?_
  rintro e w2 ⟨y, rfl, q2⟩
  have q3 : Below w.heap.size w w2 := Below.trans (by go_grown) (q2.mono (by simp))
  clear q2
  go_wp2_with fail
  all_goals go_ret
  all_goals exact ⟨_, rfl, q3⟩
theorem szBox_big (x : Int) (a : Option Addr) (L cap : Nat) (left : Int) (w : World) (h0 : 0 ≤ left) (h1 : left ≤ 1048576) (hc : L ≤ cap) (hm : cap ≤ maxLen) (hl : 1048576 < L) :
    Calls Try.prog 5 #[.agg #[.int .i64 x, .slice a L cap], .int .i64 left] w fun e w' => e = .returned (.int .i64 (-1)) ∧ Below w.heap.size w w' := by
  go_enter Try.func5, Try.ntmps5
  go_wp2_with fail
  refine (szMailS_big a L cap left _ h0 h1 hc hm hl).mono ?_
  rintro e w2 ⟨rfl, rfl⟩
  go_wp2_with fail
  go_ret
  exact ⟨rfl, by go_grown⟩
theorem toMail_any (m : M) (w : World) : Calls Try.prog 35 #[.agg #[.int .i64 m.uid, .int .i64 m.flags, .string m.text]] w fun e w' => e = .returned (.agg #[.int .i64 m.uid, .int .i64 m.flags, .string m.text]) ∧ Below w.heap.size w w' := by
  obtain ⟨u, f, s⟩ := m
  dsimp only
  go_enter Try.func35, Try.ntmps35
  go_wp2_with fail
  refine bodyPost_ret (v := .agg #[.int .i64 u, .int .i64 f, .string s]) (by simp [results, Try.results35, go_sem]) rfl ⟨rfl, ?_⟩
  go_grown
set_option maxHeartbeats 400000 in
theorem toMailS_any (l : List M) (v : Value) (w : World) (h : MailAt w v l) (hl : l.length ≤ 1048576) :
    Calls Try.prog 22 #[v] w fun e w' => ∃ g, e = .returned (.slice (some ⟨g, 0, none⟩) l.length l.length) ∧ Own w' w.heap.size (.slice (some ⟨g, 0, none⟩) l.length l.length) l ∧ Below w.heap.size w w' := by
  obtain ⟨a, L, cap, rfl, rfl, hc, _, hmail⟩ := h
  obtain ⟨i0, hi, hz0, hz1, hz2⟩ := info_parts Try.infoMail
  have hmk := run_make_rowN (P := Try.prog) 27 47 i0 (.agg #[.int .i64 0, .int .i64 0, .string ⟨#[]⟩]) Try.underlying27 hi hz0 .i64 .i64 l.length l.length (Nat.le_refl _) (by rw [hz2]; omega) (by omega) w
  rw [hz1] at hmk
  obtain ⟨w1, hw1⟩ : ∃ w1, w1 = w.alloc (.cells (madeCells #[.int .i64 0, .int .i64 0, .string ⟨#[]⟩] (l.length * 3)) 47) := ⟨_, rfl⟩
  have ho := own_zeros w l.length (by unfold maxLen; omega)
  have hmk2 : (Instr.makeSlice 27 (.int .i64 (l.length : Int)) (.int .i64 (l.length : Int))).run Try.prog w = .ok (.slice (some ⟨w.heap.size, 0, none⟩) l.length l.length) w1 := by rw [hw1]; exact hmk
  rw [← hw1] at ho
  have q1 : Below w.heap.size w w1 := by rw [hw1]; exact (Below.refl _ _).alloc (Nat.le_refl _) _
  have HO := Lib.hid ho
  clear hmk hw1 ho hi hz0 hz1 hz2
  go_enter Try.func22, Try.ntmps22
  go_wp2_with fail
  clear hmk2
  go_loopw [4] (fun i wr => ∃ (n : Nat), n ≤ l.length ∧ i = .int .i64 n ∧ Hid (Own wr w.heap.size (.slice (some ⟨w.heap.size, 0, none⟩) l.length l.length) (upd (cpy l) n (List.replicate l.length zM))) ∧ Below w.heap.size w wr) (fun i _ => l.length - (intOf i).toNat)
  case atStart => exact ⟨0, by omega, rfl, by rw [upd_zero]; exact HO.out, q1⟩
  case round =>
    obtain ⟨n, hn, rfl, HO2, hq⟩ := hrel
    clear HO q1
    by_cases hlt : n < l.length
    · rcases hmail with h0 | ⟨g, off, rfl, hg, hcells⟩
      · omega
      have hm := List.getElem?_eq_getElem hlt
      generalize l[n] = m at hm
      obtain ⟨c0, c1, c2⟩ := hcells n _ hm
      replace c0 := (hq.cell (p := ⟨g, _, none⟩) hg).trans c0
      replace c1 := (hq.cell (p := ⟨g, _, none⟩) hg).trans c1
      replace c2 := (hq.cell (p := ⟨g, _, none⟩) hg).trans c2
      have HM := Lib.hid hm
      clear hcells hm
      have hnI : (n : Int) < (l.length : Int) := by omega
      go_wp2_with fail
      refine (toMail_any m _).mono ?_
      rintro e w2 ⟨rfl, q2⟩
      have q3 := hq.trans (q2.mono hq.size)
      have ho2 := HO2.out.below q2
      have hz : (List.replicate l.length zM)[n]? = some zM := by rw [List.getElem?_replicate, if_pos hlt]
      obtain ⟨d0, d1, d2, e0, e1, e2⟩ := ho2.cells3 (upd_at (cpy l) n _ zM hz)
      have ho3 := ho2.put3 (by rw [upd_length, List.length_replicate]) (i := n) (by rw [upd_length, List.length_replicate]; exact hlt) m
      have hu := upd_set (cpy l) n _ zM hz
      rw [cpy_at HM.out] at hu
      rw [hu] at ho3
      have HO3 := Lib.hid ho3
      have hdd := (own_block ho2).1
      clear c0 c1 c2 q2 ho2 ho3 hu hz
      go_wp2_with fail
      go_roundw
      case rel => exact ⟨n + 1, by omega, by go_num, HO3.out, ((q3.setCell (by show w.heap.size ≤ w.heap.size; omega) _).setCell (by show w.heap.size ≤ w.heap.size; omega) _).setCell (by show w.heap.size ≤ w.heap.size; omega) _⟩
      case measure => simp [intOf]; omega
    · have hnn : n = l.length := by omega
      have ho2 := HO2.out
      rw [upd_all _ _ (by simp; exact hnn), cpy_all] at ho2
      have HO3 := Lib.hid ho2
      clear hmail ho2 hnn
      go_wp2_with fail
      go_ret
      exact ⟨_, rfl, HO3.out, hq⟩
end Go.Proofs.Ytpahgjideppmoaa

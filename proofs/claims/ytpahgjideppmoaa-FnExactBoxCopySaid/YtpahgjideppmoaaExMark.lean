/- WALKS: marks: a row is filled with numbers and words that are told apart; it is read back. -/
import Derived.Test.YtpahgjideppmoaaExEq
import Derived.Laws.IdiomStrings
namespace Go.Proofs.Ytpahgjideppmoaa
open Go.RowKit
set_option linter.unusedVariables false
attribute [local go_sem ↓] Go.wp_at_zero Go.wp_at_succ

set_option maxRecDepth 100000 in
set_option maxHeartbeats 400000 in
theorem markText_any (k : Nat) (hk : 1 ≤ k) (hk2 : k ≤ 1000000000) (w : World) : Calls Try.prog 41 #[.int .i64 (k : Int)] w fun e w' => e = .returned (.string (mtx k)) ∧ Below w.heap.size w w' := by
  go_enter Try.func41, Try.ntmps41
  go_wp2_with fail
  go_loopw [0, 3] (fun x s wr => ∃ (n : Nat) (t : ByteArray), t.size + n ≤ k ∧ x = .int .i64 (n : Int) ∧ s = .string t ∧ Hid (digs k = digs n ++ t.data.toList) ∧ Below w.heap.size w wr) (fun x _ _ => (intOf x).toNat)
  case atStart => exact ⟨k, ⟨#[]⟩, by show 0 + k ≤ k; omega, rfl, rfl, (by show _ = _; simp), Below.refl _ _⟩
  case round =>
    obtain ⟨n, t, hn, rfl, rfl, HD, hq⟩ := hrel
    by_cases hlt : 0 < n
    · have hp := digs_pos hlt
      have hd : ((UInt8.ofNat (48 + n % 10)).toNat : Int) = 48 + (n : Int) % 10 := by
        rw [UInt8.toNat_ofNat']; omega
      obtain ⟨dg, hdg⟩ : ∃ d, UInt8.ofNat (48 + n % 10) = d := ⟨_, rfl⟩
      rw [hdg] at hp hd
      have HP := Lib.hid hp
      clear hp hdg
      have hcv : (convert 39 9 (.slice (some ⟨wr.heap.size, 0, none⟩) 1 1)).run Try.prog (wr.alloc (.cells #[.int .u8 (48 + (n : Int) % 10)] 5)) = .ok (.string ⟨#[dg]⟩) (wr.alloc (.cells #[.int .u8 (48 + (n : Int) % 10)] 5)) :=
        run_convert_bytes_back _ _ _ 5 ⟨wr.heap.size, 0, none⟩ 1 [dg] Try.underlying39 Try.underlying5 Try.underlying9 (fun j hj => by
          simp at hj; subst hj
          rw [add_at, Nat.add_zero]
          exact cell_of_block (heap_alloc_new wr _) (congrArg (fun z => some (Value.int .u8 z)) hd.symm))
      clear hd
      have hdiv : n / 10 < n := by omega
      go_wp2_with fail
      go_roundw
      case rel => exact ⟨n / 10, ⟨#[dg]⟩ ++ t, by rw [ByteArray.size_append]; show 1 + t.size + n / 10 ≤ k; omega, by simp, rfl, (by show _ = _; rw [HD.out, HP.out]; simp), hq.alloc hq.size _⟩
      case measure => simp [intOf]; omega
    · obtain rfl : n = 0 := by omega
      go_wp2_with fail
      go_ret
      exact ⟨by
        have h := HD.out
        have h0 : digs 0 = [] := by rw [digs]; rfl
        rw [h0, List.nil_append] at h
        unfold mtx
        rw [h]
        rfl, hq⟩
theorem markText_int (x : Int) (h1 : 1 ≤ x) (h2 : x ≤ 1000000000) (w : World) : Calls Try.prog 41 #[.int .i64 x] w fun e w' => ∃ t, e = .returned (.string t) ∧ t = mtx x.toNat ∧ Below w.heap.size w w' := by
  obtain ⟨k, rfl⟩ := Int.eq_ofNat_of_zero_le (show 0 ≤ x by omega)
  exact (markText_any k (by omega) (by omega) w).mono fun _ _ ⟨he, hb⟩ => ⟨_, he, rfl, hb⟩
theorem grown_at {w a : World} {g : Nat} (h : w.grownBy a (some g)) (o : Nat) (u : Value) : w.grownBy (a.setCell ⟨g, o, none⟩ u) (some g) :=
  ⟨h.os, h.tape, h.output, by simpa [World.setCell] using h.size, fun k hk hr => (Below.heap_setCell _ _ _ _ (by show k ≠ g; exact fun e => hr (by rw [e]))).trans (h.block k hk hr)⟩
theorem Own.put2 {w : World} {base g n cap : Nat} {l : List M} (h : Own w base (.slice (some ⟨g, 0, none⟩) n cap) l) (hn : n = l.length) {i : Nat} {m0 : M} (hi : l[i]? = some m0) (u f : Int) :
    Own ((w.setCell ⟨g, i * 3, none⟩ (.int .i64 u)).setCell ⟨g, i * 3 + 1, none⟩ (.int .i64 f)) base (.slice (some ⟨g, 0, none⟩) n cap) (l.set i ⟨u, f, m0.text⟩) := by
  have hlt := (List.getElem?_eq_some_iff.1 hi).1
  have o1 := h.put hn (l' := l.set i { m0 with uid := u }) (by simp) (j := i * 3) (by omega) (.int .i64 u) ((rowOf_set l i m0 hi).1 u).symm
  have e1 : (l.set i { m0 with uid := u })[i]? = some { m0 with uid := u } := by rw [List.getElem?_set_self hlt]
  exact o1.put (l' := l.set i ⟨u, f, m0.text⟩) (by simpa using hn) (by simp) (j := i * 3 + 1) (by simp; omega) (.int .i64 f) (by rw [(rowOf_set _ i _ e1).2 f, List.set_set])
theorem Own.putT {w : World} {base g n cap : Nat} {l : List M} (h : Own w base (.slice (some ⟨g, 0, none⟩) n cap) l) (hn : n = l.length) {i : Nat} {m0 : M} (hi : l[i]? = some m0) (t : ByteArray) :
    Own (w.setCell ⟨g, i * 3 + 2, none⟩ (.string t)) base (.slice (some ⟨g, 0, none⟩) n cap) (l.set i { m0 with text := t }) := by
  have hlt := (List.getElem?_eq_some_iff.1 hi).1
  exact h.put hn (l' := l.set i { m0 with text := t }) (by simp) (j := i * 3 + 2) (by omega) (.string t) (rowOf_text l i m0 hi t).symm
set_option maxRecDepth 100000 in
set_option maxHeartbeats 400000 in
theorem markMailS_at (l : List M) (g cap base k : Nat) (w : World) (h : Own w base (.slice (some ⟨g, 0, none⟩) l.length cap) l) (hk : 1 ≤ k) (hl : l.length ≤ 1048576) (hk2 : k + l.length * 3 ≤ 900000000) :
    Calls Try.prog 27 #[.slice (some ⟨g, 0, none⟩) l.length cap, .int .i64 (k : Int)] w fun e w' => e = .returned (.int .i64 ((k + l.length * 3 : Nat) : Int)) ∧ Own w' base (.slice (some ⟨g, 0, none⟩) l.length cap) (markM k l) ∧ w.grownBy w' (some g) := by
  have HO := Lib.hid h
  have hgl := (own_block h).2
  have hcap := h.mail (by omega)
  obtain ⟨_, _, _, he, _, hlc, _⟩ := hcap
  cases he
  clear h
  go_enter Try.func27, Try.ntmps27
  go_wp2_with fail
  go_loopw [1, 5] (fun kv i wr => ∃ (n x : Nat), n ≤ l.length ∧ 1 ≤ x ∧ x ≤ 900000000 ∧ i = .int .i64 (n : Int) ∧ kv = .int .i64 (x : Int) ∧ Hid (x = k + n * 3) ∧ Hid (Own wr base (.slice (some ⟨g, 0, none⟩) l.length cap) (upd (fun i _ => mkM (k + i * 3)) n l)) ∧ Hid (w.grownBy wr (some g))) (fun _ i _ => l.length - (intOf i).toNat)
  case atStart => exact ⟨0, k, by omega, by omega, by omega, rfl, rfl, rfl, by rw [upd_zero]; exact HO.out, grown_refl _ _⟩
  case round =>
    obtain ⟨n, x, hn, hx1, hx2, rfl, rfl, HX, HO2, HG⟩ := hrel
    clear HO
    by_cases hlt : n < l.length
    · have hm := List.getElem?_eq_getElem hlt
      generalize l[n] = m at hm
      have hat := upd_at (fun i _ => mkM (k + i * 3)) n l m hm
      have hln := upd_length (fun i _ => mkM (k + i * 3)) n l
      obtain ⟨d0, d1, d2, e0, e1, e2⟩ := HO2.out.cells3 hat
      have o2 := HO2.out.put2 hln.symm hat (x : Int) ((x : Int) + 1)
      have hnI : (n : Int) < (l.length : Int) := by omega
      have O2 := Lib.hid o2; have HAT := Lib.hid hat; have HLN := Lib.hid hln; have HM := Lib.hid hm
      have hx3 : (x : Int) + 1 + 1 ≤ 1000000000 := by omega
      have hx4 : (x : Int) < k + l.length * 3 := by have := HX.out; omega
      clear o2 hat hln hm
      go_wp2_with fail
      refine (markText_int _ (by omega) (by omega) _).mono ?_
      rintro e w2 ⟨t, rfl, ht, q2⟩
      have o3 := O2.out.below q2
      have a3 : ((upd (fun i _ => mkM (k + i * 3)) n l).set n ⟨(x : Int), (x : Int) + 1, m.text⟩)[n]? = some ⟨(x : Int), (x : Int) + 1, m.text⟩ := by rw [List.getElem?_set_self (by rw [HLN.out]; exact hlt)]
      have o4 := o3.putT (by rw [List.length_set, HLN.out]) a3 t
      obtain ⟨_, _, d2', _, _, e2'⟩ := o3.cells3 a3
      have hmk : (⟨(x : Int), (x : Int) + 1, t⟩ : M) = mkM (k + n * 3) := by
        rw [ht, ← HX.out]; unfold mkM
        have : ((x : Int) + 1 + 1).toNat = x + 2 := by omega
        first | rw [this] | (congr 2; omega)
      rw [List.set_set] at o4
      have hset := upd_set (fun i _ => mkM (k + i * 3)) n l m HM.out
      rw [hmk, hset] at o4
      have HO4 := Lib.hid o4
      have hg3 := grown_below (grown_at (grown_at HG.out (n * 3) (.int .i64 (x : Int))) (n * 3 + 1) (.int .i64 ((x : Int) + 1))) q2
      have HG3 := Lib.hid hg3
      have HX3 : Hid (x + 3 = k + (n + 1) * 3) := by show _ = _; have := HX.out; omega
      have hx5 : x + 3 ≤ 900000000 := by have := HX3.out; omega
      clear d0 d1 d2 e0 e1 e2 O2 o3 o4 a3 ht hmk hset hg3 q2
      go_wp2_with fail
      go_roundw
      case rel => exact ⟨n + 1, x + 3, by omega, by omega, by omega, by go_num, by go_num, HX3.out, HO4.out, grown_at HG3.out _ _⟩
      case measure => simp [intOf]; omega
    · have hnn : n = l.length := by omega
      have ho := HO2.out
      rw [upd_all _ _ hnn] at ho
      have HO3 : Hid (Own wr base (.slice (some ⟨g, 0, none⟩) l.length cap) (markM k l)) := ho
      have hxx : x = k + l.length * 3 := by rw [HX.out, hnn]
      have HXX := Lib.hid hxx
      clear ho hnn hxx HO2
      go_wp2_with fail
      go_ret
      exact ⟨ret_int (by have := HXX.out; omega), HO3.out, HG.out⟩
theorem markMailS_nil (k : Int) (w : World) : Calls Try.prog 27 #[.slice none 0 0, .int .i64 k] w fun e w' => e = .returned (.int .i64 k) ∧ w = w' := by
  go_enter Try.func27, Try.ntmps27
  go_wp2_with fail
  refine wp_loop_rounds 1 ?_
  rw [rounds_succ]
  go_wp2_with fail
  go_ret
  exact ⟨rfl, rfl⟩
theorem markMailS_any (l : List M) (a : Option Addr) (cap base k : Nat) (w : World) (h : Own w base (.slice a l.length cap) l) (hk : 1 ≤ k) (hl : l.length ≤ 1048576) (hk2 : k + l.length * 3 ≤ 900000000) :
    Calls Try.prog 27 #[.slice a l.length cap, .int .i64 (k : Int)] w fun e w' => e = .returned (.int .i64 ((k + l.length * 3 : Nat) : Int)) ∧ Own w' base (.slice a l.length cap) (markM k l) ∧ w.grownBy w' (Value.slice a l.length cap).ownBlock := by
  have h' := h
  rcases h.2 with ⟨h2, h0⟩ | ⟨g, cap', cur, h2, _⟩
  · have hl0 : l = [] := List.eq_nil_of_length_eq_zero h0
    subst hl0
    cases h2
    refine (markMailS_nil (k : Int) w).mono ?_
    rintro e w' ⟨rfl, rfl⟩
    exact ⟨ret_int (by simp), h', grown_refl _ _⟩
  · cases h2
    exact markMailS_at l g cap base k w h' hk hl hk2
theorem markBox_any (b : B) (a : Option Addr) (cap base k : Nat) (w : World) (h : Own w base (.slice a b.mail.length cap) b.mail) (hb : base ≤ w.heap.size) (hk : 1 ≤ k) (hl : b.mail.length ≤ 1048576) (hk2 : k + b.mail.length * 3 ≤ 900000000) :
    Calls Try.prog 12 #[.agg #[.int .i64 b.next, .slice a b.mail.length cap], .int .i64 (k : Int)] w fun e w' => e = .returned (.int .i64 ((k + b.mail.length * 3 : Nat) : Int)) ∧ Own w' base (.slice a b.mail.length cap) (markM k b.mail) ∧ w.grownBy w' (Value.slice a b.mail.length cap).ownBlock := by
  have K := markMailS_any b.mail a cap base k (w.alloc (.cells #[.int .i64 b.next, .slice a b.mail.length cap] 29)) (h.alloc _) hk hl hk2
  have HK := Lib.hid K
  clear K h
  go_enter Try.func12, Try.ntmps12
  go_wp2_with fail
  refine HK.out.mono ?_
  rintro e w2 ⟨rfl, ho, hg⟩
  have HO := Lib.hid ho
  have HG := Lib.hid (grown_trans (grown_alloc (grown_refl w _) _) hg)
  clear ho hg HK
  go_wp2_with fail
  go_ret
  exact ⟨ret_int (by simp), HO.out, HG.out⟩
set_option maxRecDepth 100000 in
set_option maxHeartbeats 400000 in
theorem heldMailS_any (l l' : List M) (v : Value) (k : Nat) (w : World) (h : MailAt w v l') (he : l' = markM k l) (hk : 1 ≤ k) (hl : l.length ≤ 1048576) (hk2 : k + l.length * 3 ≤ 900000000) :
    Calls Try.prog 28 #[v, .int .i64 (k : Int)] w fun e w' => e = .returned (.int .i64 ((k + l.length * 3 : Nat) : Int)) ∧ Below w.heap.size w w' := by
  obtain ⟨a, L, cap, rfl, hL, hcap, ⟨hmax, _⟩, hmail⟩ := h
  have hLl : l.length = L := by rw [← hL, he, markM_length]
  rw [hLl] at hl hk2 ⊢
  have HL := Lib.hid hLl; have HE := Lib.hid he
  clear hL hLl he
  go_enter Try.func28, Try.ntmps28
  go_wp2_with fail
  go_loopw [1, 5] (fun kv i wr => ∃ (n x : Nat), n ≤ L ∧ 1 ≤ x ∧ x ≤ 900000000 ∧ i = .int .i64 (n : Int) ∧ kv = .int .i64 (x : Int) ∧ Hid (x = k + n * 3) ∧ Below w.heap.size w wr) (fun _ i _ => L - (intOf i).toNat)
  case atStart => exact ⟨0, k, by omega, by omega, by omega, rfl, rfl, rfl, Below.refl _ _⟩
  case round =>
    obtain ⟨n, x, hn, hx1, hx2, rfl, rfl, HX, hq⟩ := hrel
    by_cases hlt : n < L
    · rcases hmail with h0 | ⟨g, off, rfl, hg, hcells⟩
      · omega
      have hm := markM_at k l (i := n) (by rw [HL.out]; exact hlt)
      rw [← HX.out, ← HE.out] at hm
      obtain ⟨c0, c1, c2⟩ := hcells n _ hm
      replace c0 := (hq.cell (p := ⟨g, _, none⟩) hg).trans c0
      replace c1 := (hq.cell (p := ⟨g, _, none⟩) hg).trans c1
      replace c2 := (hq.cell (p := ⟨g, _, none⟩) hg).trans c2
      simp only [mkM] at c0 c1 c2
      have n0 : (0 : Int) ≤ (n : Int) := Int.natCast_nonneg _
      have hnI : (n : Int) < (L : Int) := by omega
      have hx4 : x + 3 ≤ 900000000 := by have := HX.out; omega
      have HX3 : Hid (x + 3 = k + (n + 1) * 3) := by show _ = _; have := HX.out; omega
      have hx3 : (x : Int) + 1 + 1 ≤ 1000000000 := by omega
      clear hm hcells
      go_upto_region 10 with fail
      have x1 : ((x : Int) + 1 + 1).toNat = x + 2 := by omega
      have X1 := Lib.hid x1
      clear x1
      go_region_held3 (fun W => W.cell? ⟨g, off + n * 3 + 2, none⟩ = some (.string (mtx (x + 2)))) (first | exact c2 | (go_keep; done))
        ((go_at_call 41; refine (markText_int _ (by omega) (by omega) _).mono ?_; rintro e w2 ⟨t, rfl, ht, q2⟩; have q3 : Below w.heap.size w w2 := hq.trans (Below.trans (by go_grown) (q2.mono (by first | exact hq.size | (show _ ≤ wr.heap.size; exact hq.size)))); have c2 := (q2.cell (p := ⟨g, _, none⟩) (World.block_lt_of_cell? _ _ c2)).trans c2; rw [X1.out] at ht; subst ht; clear q2))
      go_wp2_with fail
      go_roundw
      case rel => exact ⟨n + 1, x + 3, by omega, by omega, by omega, by go_num, by go_num, HX3.out, q3⟩
      case measure => simp [intOf]; omega
    · have hnn : n = L := by omega
      have hxx : x = k + L * 3 := by rw [HX.out, hnn]
      have HXX := Lib.hid hxx
      clear hnn hxx hmail
      go_wp2_with fail
      go_ret
      exact ⟨ret_int (by have := HXX.out; omega), hq⟩
end Go.Proofs.Ytpahgjideppmoaa

/- WALKS: numbers as texts, at the reference. -/
import Derived.Test.YtgcdopmidmelfaaDoorKNumP
import Derived.Deep.RegionWith
import Derived.Deep.Cut
import Derived.IntWalk
import Derived.Laws.BytesArg
namespace Go.Proofs.YtgcdopmidmelfaaDoor
open Go.RowKit
set_option linter.unusedVariables false

theorem conv_one (W : World) (g : Nat) (x : Int) (h : W.cell? ⟨g, 0, none⟩ = some (.int .u8 x)) : (convert 87 9 (.slice (some ⟨g, 0, none⟩) 1 1)).run Tryd.prog W = .ok (.string (strOfNums [x])) W := by
  refine run_convert_bytes_arg W 87 5 Tryd.underlying87 Tryd.underlying5 g 0 1 1 [x] rfl (fun i hi => ?_) 9 Tryd.underlying9
  have h0 : i = 0 := by omega
  subst h0
  simpa using h
theorem num_one {n : Nat} (h : n < 10) : StrIs (strOfNums [48 + (n : Int)]) (Lib.decDigits n) := by
  rw [dec_one h]
  show [UInt8.ofNat (48 + (n : Int)).toNat] = _
  rw [show (48 + (n : Int)).toNat = 48 + n from by omega]
set_option maxRecDepth 100000 in
theorem l6Dec_one (n : Nat) (hn : n < 10) (w : World) :
    Calls Tryd.prog 47 #[.int .i64 n] w fun e w' => ∃ s, e = .returned (.string s) ∧ StrIs s (Lib.decDigits n) ∧ Below w.heap.size w w' := by
  have h3 : (n : Int) < 10 := by omega
  have hc := conv_one (w.alloc (.cells #[.int .u8 (48 + (n : Int))] 5)) w.heap.size (48 + (n : Int)) (cell_of_block (j := 0) (heap_alloc_new w _) rfl)
  have HN := Lib.hid (num_one hn)
  go_enter Tryd.func47, Tryd.ntmps47
  go_wp2_with fail
  go_ret
  exact ⟨_, rfl, HN.out, by go_grown⟩
theorem alloc_cell {w w2 : World} {x : Int} (q : Below (w.alloc (.cells #[.int .u8 x] 5)).drew.heap.size (w.alloc (.cells #[.int .u8 x] 5)).drew w2) : w2.cell? ⟨w.heap.size, 0, none⟩ = some (.int .u8 x) :=
  (q.cell (p := ⟨w.heap.size, 0, none⟩) (by show w.heap.size < (w.alloc _).heap.size; simp)).trans (cell_of_block (w := w.alloc _) (j := 0) (heap_alloc_new w _) rfl)
theorem wrap8 : ∀ b : Nat, b < 10 → IntKind.u8.wrap (48 + (b : Int)) = 48 + (b : Int) := by decide +kernel
set_option maxRecDepth 100000 in
set_option maxHeartbeats 2000000 in
theorem l6Dec_two (n : Nat) (hn : 10 ≤ n) (hn2 : n < 100) (w : World) :
    Calls Tryd.prog 47 #[.int .i64 n] w fun e w' => ∃ s, e = .returned (.string s) ∧ StrIs s (Lib.decDigits n) ∧ Below w.heap.size w w' := by
  have h3 : ¬ (n : Int) < 10 := by omega
  obtain ⟨a, ha⟩ : ∃ a, n / 10 = a := ⟨_, rfl⟩
  obtain ⟨b, hb⟩ : ∃ b, n % 10 = b := ⟨_, rfl⟩
  have ha9 : a < 10 := by omega
  have hb9 : b < 10 := by omega
  have e1 : (n : Int).tdiv 10 = (a : Int) := by rw [Int.tdiv_eq_ediv_of_nonneg (by omega)]; omega
  have e2 : (n : Int).tmod 10 = (b : Int) := by rw [Int.tmod_eq_emod_of_nonneg (by omega)]; omega
  have e3 : (n : Int) / 10 = (a : Int) := by omega
  have e4 : (n : Int) % 10 = (b : Int) := by omega
  have e5 : IntKind.i64.wrap (48 + (b : Int)) = 48 + (b : Int) := IntWalk.i64_in _ (by omega)
  have ew : IntKind.i64.wrap (a : Int) = (a : Int) := IntWalk.i64_in _ (by omega)
  have e6 : IntKind.u8.wrap (48 + (b : Int)) = 48 + (b : Int) := wrap8 b hb9
  have hd : Lib.decDigits n = Lib.decDigits a ++ [UInt8.ofNat (48 + b)] := by rw [dec_two hn, ha, hb]
  have hnb := num_one hb9
  rw [dec_one hb9] at hnb
  have HD := Lib.hid hd; have HNB := Lib.hid hnb
  have hla := dec_len (n := a) (by omega)
  have HLA := Lib.hid hla
  have hz1 : (strOfNums [48 + (b : Int)]).size = 1 := rfl
  have hconv := conv_one
  clear hd hnb ha hb hla
  go_enter Tryd.func47, Tryd.ntmps47
  have hd1 : decide ((n : Int) < -9223372036854775807) = false := decide_eq_false (by omega)
  have hd2 : decide ((n : Int) < 0) = false := decide_eq_false (by omega)
  go_upto_region 7 with fail
  try rw [hd1, hd2]
  clear hd1 hd2
  go_region_with (go_at_call 47; refine (l6Dec_one a ha9 _).mono ?_; rintro e w2 ⟨s, rfl, hs, q2⟩; (first | have c0 := alloc_cell q2 | skip); have hz3 : s.size ≤ 2 := (by rw [strSize hs]; exact HLA.out); have t1 : ¬ 9223372036854775807 < s.size + 1 := (by omega); have HS := Lib.hid hs; have Q2 := Lib.hid q2; clear hs q2)
  all_goals
    have QQ : Below w.heap.size w w2 := Below.trans (by go_grown) (Q2.out.mono (by show w.heap.size ≤ _; simp))
    go_wp2_with fail
    go_ret
    exact ⟨_, rfl, by rw [HD.out]; exact strApp HS.out HNB.out, by first | exact QQ | exact QQ.alloc QQ.size _⟩
theorem l6Dec_any (n : Nat) (hn : n < 100) (w : World) :
    Calls Tryd.prog 47 #[.int .i64 n] w fun e w' => ∃ s, e = .returned (.string s) ∧ StrIs s (Lib.decDigits n) ∧ Below w.heap.size w w' := by
  by_cases h : n < 10
  · exact l6Dec_one n h w
  · exact l6Dec_two n (by omega) hn w
end Go.Proofs.YtgcdopmidmelfaaDoor

/- PLAIN LEAN: what a change of flags in a mailbox comes to. -/
import Derived.Test.YtjcfjhimfbglhaaExLaws
namespace Go.Proofs.Ytjcfjhimfbglhaa

theorem flagsTo_ok {b : B} {ps : List Int} {how o : Int} (h : (flagsTo b ps how o).2 = true) :
    bok b = true ∧ numsOk b.mail.length ps = true ∧ hok how = true ∧ fok o = true ∧ flagsTo b ps how o = (⟨b.next, flagAll how o b.mail ps⟩, true) := by
  unfold flagsTo at h ⊢
  split at h
  · next hc =>
    rw [if_pos hc]
    simp only [Bool.and_eq_true] at hc
    exact ⟨hc.1.1.1, hc.1.1.2, hc.1.2, hc.2, rfl⟩
  · cases h
theorem changed_fine {f how o : Int} (hf : fok f = true) (ho : fok o = true) (hh : hok how = true) : 0 ≤ changed f how o ∧ fok (changed f how o) = true := by
  have h1 : changed f how o = (chg how f.toNat o.toNat : Nat) := by unfold changed; rw [if_pos]; simp [hf, ho, hh]
  have hf' := (fok_iff _).1 hf
  have ho' := (fok_iff _).1 ho
  have := chg_lt how hh f.toNat o.toNat (by omega) (by omega)
  rw [h1]
  exact ⟨by omega, by rw [fok_iff]; omega⟩
theorem flagAll_mok {how o : Int} {l : List M} {ps : List Int} {c : Int} (hl : ∀ m ∈ l, mok m = true) (hp : ascN 0 c ps = true) (hh : hok how = true) (ho : fok o = true) : ∀ m ∈ flagAll how o l ps, mok m = true := by
  intro m hm
  obtain ⟨i, hi, rfl⟩ := List.mem_iff_getElem.1 hm
  have hi' : i < l.length := by rw [flagAll_len] at hi; exact hi
  have hg := flagAll_get how o ps l 0 c (Int.le_refl _) hp i _ (List.getElem?_eq_getElem hi')
  rw [List.getElem?_eq_getElem hi] at hg
  rw [Option.some.inj hg]
  have hk := hl _ (List.getElem_mem hi')
  split
  · have := changed_fine (mok_flags hk) ho hh
    simp only [mok, Bool.and_eq_true] at hk ⊢
    exact ⟨⟨hk.1.1, this.2⟩, hk.2⟩
  · exact hk
theorem flagAll_uids {how o : Int} : ∀ (ps : List Int) (l : List M), (flagAll how o l ps).map M.uid = l.map M.uid
  | [], l => rfl
  | p :: ps, l => by
    show (flagAll how o (flagAt how o l p) ps).map M.uid = _
    rw [flagAll_uids ps]
    refine List.ext_getElem? fun i => ?_
    unfold flagAt
    rw [List.getElem?_map, List.getElem?_map, List.getElem?_modify]
    rcases l[i]? with _ | m
    · rfl
    · simp only [Option.map_eq_map, Option.map_some]
      split <;> rfl
theorem flagsTo_bok {b : B} {ps : List Int} {how o : Int} (h1 : bok b = true) (h2 : numsOk b.mail.length ps = true) (h3 : hok how = true) (h4 : fok o = true) : bok ⟨b.next, flagAll how o b.mail ps⟩ = true := by
  obtain ⟨f1, f2, f3, f4, f5, f6⟩ := bok_facts h1
  have hu := flagAll_uids (how := how) (o := o) ps b.mail
  refine bok_of (flagAll_mok f1 h2 h3 h4) ?_ ?_ f4 f5 (by dsimp only; rw [flagAll_len]; exact f6)
  · have : ((flagAll how o b.mail ps).map M.uid).Pairwise (· < ·) := by rw [hu, List.pairwise_map]; exact f2
    exact List.pairwise_map.1 this
  · intro m hm
    have : m.uid ∈ (flagAll how o b.mail ps).map M.uid := List.mem_map.2 ⟨m, hm, rfl⟩
    rw [hu] at this
    obtain ⟨m', hm', e⟩ := List.mem_map.1 this
    rw [← e]
    exact f3 m' hm'
theorem flagAll_two {how o : Int} {l : List M} {ps : List Int} {c : Int} (hl : ∀ m ∈ l, mok m = true) (hp : ascN 0 c ps = true) (hh : hok how = true) (ho : fok o = true) : flagAll how o (flagAll how o l ps) ps = flagAll how o l ps := by
  refine List.ext_getElem? fun i => ?_
  by_cases hi : i < l.length
  · have hm := List.getElem?_eq_getElem hi
    have hg := flagAll_get how o ps l 0 c (Int.le_refl _) hp i _ hm
    rw [flagAll_get how o ps _ 0 c (Int.le_refl _) hp i _ hg, hg]
    have hk := hl _ (List.getElem_mem hi)
    split
    · simp only [Option.some.injEq, M.mk.injEq, true_and, and_true]
      exact changed_twice (changed_fine (mok_flags hk) ho hh).1
    · rfl
  · rw [List.getElem?_eq_none (by rw [flagAll_len, flagAll_len]; omega), List.getElem?_eq_none (by rw [flagAll_len]; omega)]
theorem flagsTo_two {b : B} {ps : List Int} {how o : Int} (h : (flagsTo b ps how o).2 = true) : flagsTo (flagsTo b ps how o).1 ps how o = ((flagsTo b ps how o).1, true) := by
  obtain ⟨h1, h2, h3, h4, h5⟩ := flagsTo_ok h
  rw [h5]
  have hb := flagsTo_bok h1 h2 h3 h4
  have hn : numsOk (flagAll how o b.mail ps).length ps = true := by rw [flagAll_len]; exact h2
  unfold flagsTo
  dsimp only
  rw [hb, hn, h3, h4]
  simp only [Bool.and_self, if_true]
  rw [flagAll_two (bok_mok h1) h2 h3 h4]
theorem flagsTo_len (b : B) (ps : List Int) (how o : Int) (h : b.mail.length ≤ 10) : (flagsTo b ps how o).1.mail.length ≤ 10 := by
  unfold flagsTo
  split
  · dsimp only; rw [flagAll_len]; exact h
  · simp [nobox]
/-- No places: nothing changes. -/
theorem flagsTo_nil {b : B} {how o : Int} (h1 : bok b = true) (h3 : hok how = true) (h4 : fok o = true) : flagsTo b [] how o = (b, true) := by
  unfold flagsTo
  rw [if_pos (by rw [h1, h3, h4]; rfl)]
  rfl
theorem numsOk_past (c : Nat) (ps : List Int) : numsOk c (ps ++ [(c : Int) + 1]) = false := by
  unfold numsOk
  rw [ascN_append]
  have : ascN (ps.getLast?.getD 0) (c : Int) [(c : Int) + 1] = false := by
    simp only [ascN, Bool.and_true]
    have : decide ((c : Int) + 1 ≤ (c : Int)) = false := decide_eq_false (by omega)
    rw [this]; simp
  rw [this]; simp
theorem numsOk_twice (c : Nat) (ps : List Int) : numsOk c (ps ++ ps) = decide (ps.length = 0) := by
  rcases hp : ps with _ | ⟨p, r⟩
  · simp [numsOk, ascN]
  · rw [← hp]
    have hd : decide (ps.length = 0) = false := by rw [hp]; simp
    rw [hd]
    rcases hc : numsOk c (ps ++ ps) with _ | _
    · rfl
    · exfalso
      have h2 := ascN_before (ps ++ ps) 0 c hc 0 ps.length (by rw [hp]; simp) (by rw [hp]; simp) (by rw [hp]; simp)
      have e1 : (ps ++ ps)[0]? = some p := by rw [hp]; rfl
      have e2 : (ps ++ ps)[ps.length]? = some p := by rw [List.getElem?_append_right (Nat.le_refl _), Nat.sub_self, hp]; rfl
      obtain ⟨_, e1⟩ := List.getElem?_eq_some_iff.1 e1
      obtain ⟨_, e2⟩ := List.getElem?_eq_some_iff.1 e2
      rw [e1, e2] at h2
      omega
/-- The flag of the deleted ones is taken from all: none is deleted any more. -/
theorem upTo_asc (c : Nat) : ∀ (n : Nat) (x : Nat), x + n ≤ c → ascN (x : Int) (c : Int) ((List.range' (x + 1) n).map (fun k : Nat => (k : Int))) = true
  | 0, x, _ => rfl
  | n + 1, x, h => by
    rw [List.range'_succ, List.map_cons]
    simp only [ascN, Bool.and_eq_true, decide_eq_true_eq]
    refine ⟨⟨by omega, by omega⟩, ?_⟩
    exact upTo_asc c n (x + 1) (by omega)
end Go.Proofs.Ytjcfjhimfbglhaa

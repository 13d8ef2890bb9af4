/- PLAIN LEAN: the places of deleted messages, told one after the other, take just those messages out. -/
import Derived.Test.YtjcfjhimfbglhaaBoxPlain
namespace Go.Proofs.Ytjcfjhimfbglhaa

def rmAt (l : List M) (g : Int) : List M := l.take (g.toNat - 1) ++ l.drop g.toNat
def rms (l : List M) (gs : List Int) : List M := gs.foldl rmAt l
def RmOk : List M → List Int → Prop
  | _, [] => True
  | l, g :: r => 1 ≤ g ∧ g ≤ l.length ∧ RmOk (rmAt l g) r
theorem rmAt_mid (ks : List M) (m : M) (r : List M) : rmAt (ks ++ m :: r) (((ks.length : Nat) : Int) + 1) = ks ++ r := by
  have e : ((((ks.length : Nat) : Int) + 1)).toNat = ks.length + 1 := by omega
  unfold rmAt
  rw [e, Nat.add_sub_cancel, List.take_left', List.drop_append]
  · simp
  · rfl
theorem ex_rm : ∀ (r ks : List M) (gs : List Int), ∃ new, (r.foldl exStep (ks, gs)).2 = gs ++ new ∧ rms (ks ++ r) new = (r.foldl exStep (ks, gs)).1 ∧ RmOk (ks ++ r) new
  | [], ks, gs => ⟨[], by simp, by simp [rms], trivial⟩
  | m :: r, ks, gs => by
    rw [List.foldl_cons]
    rcases hd : del m with _ | _
    · have e : exStep (ks, gs) m = (ks ++ [m], gs) := by simp [exStep, hd]
      obtain ⟨new, h1, h2, h3⟩ := ex_rm r (ks ++ [m]) gs
      rw [e]
      have e2 : ks ++ [m] ++ r = ks ++ m :: r := by simp
      rw [e2] at h2 h3
      exact ⟨new, h1, h2, h3⟩
    · have e : exStep (ks, gs) m = (ks, gs ++ [((ks.length : Nat) : Int) + 1]) := by simp [exStep, hd]
      obtain ⟨new, h1, h2, h3⟩ := ex_rm r ks (gs ++ [((ks.length : Nat) : Int) + 1])
      rw [e]
      refine ⟨(((ks.length : Nat) : Int) + 1) :: new, by rw [h1]; simp, ?_, ?_⟩
      · rw [← h2]
        show rms (rmAt (ks ++ m :: r) _) new = _
        rw [rmAt_mid]
      · refine ⟨by omega, by simp; omega, ?_⟩
        rw [rmAt_mid]
        exact h3
theorem exTo_rm (l : List M) : rms l (exTo l).2 = (exTo l).1 ∧ RmOk l (exTo l).2 := by
  obtain ⟨new, h1, h2, h3⟩ := ex_rm l [] []
  have e : (exTo l).2 = new := by simpa [exTo] using h1
  rw [e]
  exact ⟨by simpa [exTo] using h2, by simpa using h3⟩
theorem rmAt_len {l : List M} {k : Nat} (h : k < l.length) : rmAt l ((k : Int) + 1) = l.take k ++ l.drop (k + 1) ∧ (rmAt l ((k : Int) + 1)).length = l.length - 1 := by
  have e : ((k : Int) + 1).toNat = k + 1 := by omega
  unfold rmAt
  rw [e, Nat.add_sub_cancel]
  exact ⟨rfl, by rw [List.length_append, List.length_take, List.length_drop]; omega⟩
theorem rm_next {l : List M} {gs : List Int} {i : Nat} (h : i < gs.length) (hk : RmOk l (gs.drop i)) {out : List M} (hr : rms l (gs.drop i) = out) :
    ∃ k : Nat, gs[i] = (k : Int) + 1 ∧ k < l.length ∧ RmOk (l.take k ++ l.drop (k + 1)) (gs.drop (i + 1)) ∧ rms (l.take k ++ l.drop (k + 1)) (gs.drop (i + 1)) = out := by
  rw [List.drop_eq_getElem_cons h] at hk hr
  obtain ⟨h1, h2, h3⟩ := hk
  obtain ⟨k, hk'⟩ := Int.eq_ofNat_of_zero_le (show 0 ≤ gs[i] - 1 by omega)
  have e : gs[i] = (k : Int) + 1 := by omega
  have hlt : k < l.length := by omega
  have he := (rmAt_len hlt).1
  rw [e, he] at h3
  have hr' : rms (rmAt l gs[i]) (gs.drop (i + 1)) = out := hr
  rw [e, he] at hr'
  exact ⟨k, e, hlt, h3, hr'⟩
theorem expunge_rm {b : B} (h : bok b = true) : rms b.mail (expunge b).2 = (expunge b).1.mail ∧ RmOk b.mail (expunge b).2 := by
  simp only [expunge, h, if_true]
  exact exTo_rm b.mail
end Go.Proofs.Ytjcfjhimfbglhaa

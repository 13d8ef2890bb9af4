/- PLAIN LEAN: what removing deleted messages comes to. -/
import Derived.Test.YtjcfjhimfbglhaaBoxLaws
namespace Go.Proofs.Ytjcfjhimfbglhaa

theorem exTo_keep (l : List M) : (exTo l).1 = l.filter (fun m => !del m) := by
  refine snoc_ind (P := fun l : List M => (exTo l).1 = l.filter (fun m => !del m)) rfl ?_ l
  intro l m ih
  rw [exTo_snoc, List.filter_append]
  unfold exStep
  rcases hd : del m with _ | _ <;> simp [hd, ih]
theorem exTo_none (l : List M) (h : ∀ m ∈ l, del m = false) : exTo l = (l, []) := by
  revert h
  refine snoc_ind (P := fun l : List M => (∀ m ∈ l, del m = false) → exTo l = (l, [])) (fun _ => rfl) ?_ l
  intro l m ih h
  rw [exTo_snoc, ih (fun x hx => h x (by simp [hx]))]
  unfold exStep
  rw [h m (by simp)]; rfl
theorem expunge_yes {b : B} (h : bok b = true) : expunge b = (⟨b.next, (exTo b.mail).1⟩, (exTo b.mail).2) := by simp [expunge, h]
theorem expunge_no {b : B} (h : bok b = false) : expunge b = (nobox, []) := by simp [expunge, h]
theorem expunge_bok {b : B} (h : bok b = true) : bok (expunge b).1 = true := by
  rw [expunge_yes h]
  refine bok_sub h ?_
  rw [exTo_keep]
  exact List.filter_sublist
theorem expunge_twice {b : B} (h : bok b = true) : expunge (expunge b).1 = ((expunge b).1, []) := by
  have hb := expunge_bok h
  rw [expunge_yes hb]
  have hn : ∀ m ∈ (expunge b).1.mail, del m = false := by
    rw [expunge_yes h]
    intro m hm
    dsimp only at hm
    rw [exTo_keep] at hm
    simpa using (List.mem_filter.1 hm).2
  rw [exTo_none _ hn]
theorem expunge_lens (b : B) (h : b.mail.length ≤ 10) : (expunge b).1.mail.length ≤ 10 ∧ (expunge b).2.length ≤ 10 := by
  unfold expunge
  split
  · have := exTo_len b.mail
    dsimp only; omega
  · simp [nobox]
theorem expunge_sum {b : B} (h : bok b = true) : (expunge b).1.mail.length + (expunge b).2.length = b.mail.length := by
  rw [expunge_yes h]; exact exTo_len b.mail
theorem expunge_next {b : B} (h : bok b = true) : (expunge b).1.next = b.next := by rw [expunge_yes h]
theorem expunge_mail {b : B} (h : bok b = true) : (expunge b).1.mail = b.mail.filter (fun m => !del m) := by rw [expunge_yes h]; exact exTo_keep _
theorem filter_step {l : List M} {n : Nat} {m : M} (h : l[n]? = some m) : (l.take (n + 1)).filter (fun m => !del m) = (l.take n).filter (fun m => !del m) ++ (if del m then [] else [m]) := by
  obtain ⟨hn, rfl⟩ := List.getElem?_eq_some_iff.1 h
  rw [List.take_succ_eq_append_getElem hn, List.filter_append]
  rcases hd : del l[n] with _ | _ <;> simp [hd]
end Go.Proofs.Ytjcfjhimfbglhaa

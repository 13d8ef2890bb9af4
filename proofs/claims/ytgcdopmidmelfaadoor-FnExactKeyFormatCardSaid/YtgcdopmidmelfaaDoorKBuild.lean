/- WALKS: the program's nodes of a key; whether a key is valid. Written by tools/gen_build.py. -/
import Derived.Test.YtgcdopmidmelfaaDoorKBranch
import Derived.Deep.RegionHeld3
import Derived.Deep.DeepCutAuto
namespace Go.Proofs.YtgcdopmidmelfaaDoor
open Go.RowKit
set_option linter.unusedVariables false

theorem kb_intro {p q : Prop} (h : p) (k : p → q) : q := k h
theorem fword_ne {f : Int} (h : flag1 f = true) : (fword f).toList.isEmpty = false ∧ ¬ (fword f).toList = [] := by
  have hf : f = 1 ∨ f = 2 ∨ f = 4 ∨ f = 8 ∨ f = 16 := by simpa [flag1, or_assoc] using h
  have hl : (fword f).toList = fwordL f := (StrIs.mk _).toList
  rw [hl]
  rcases hf with rfl | rfl | rfl | rfl | rfl <;> decide
theorem fword_no {f : Int} (h : flag1 f = false) : (fword f).toList = [] := by
  have hl : (fword f).toList = fwordL f := (StrIs.mk _).toList
  rw [hl]
  simp [flag1] at h
  simp [fwordL, h]
theorem leaf_ok (k : K) (room : Int) (hr : 1 ≤ room) (hk : k.kind < 5) : okIn k room = nodeB k.kind k.flag k.text k.set k.keys.length := okIn_leaf hr hk
theorem sz0 (t : ByteArray) : decide (t.size = 0) = decide (t.size = 0) := rfl
set_option maxHeartbeats 4000000 in
theorem keyBuild_any (k : K) : BuildOk k := by
  induction k using K.ind with
  | h k ih =>
    intro v S w rb room h hN hF hNa hroom hrb h0 h1
    have hkey := h
    obtain ⟨sa, sn, sc, a, L, cap, rfl, hs, hsn, hL, hcap, hmax, hmax2⟩ := h.open
    have hlt := lt_of_block hroom
    obtain ⟨kd, hkd⟩ : ∃ x, k.kind = x := ⟨_, rfl⟩
    have hbad : okIn k room = false → ∀ w', w.grownBy w' (some rb) → Built w S rb room k (.returned (.tuple #[.nilIface, .bool false])) w' := fun hr w' hg => ⟨.nilIface, by rw [hr], hg, fun e => by rw [hr] at e; cases e⟩
    have HBAD := Lib.hid hbad
    have HKD := Lib.hid hkd; have HL := Lib.hid hL; have IH := Lib.hid ih; have HF := Lib.hid hF; have HNa := Lib.hid hNa; have HR0 := Lib.hid hroom; have HK0 := Lib.hid hkey; have HS := Lib.hid hs
    have hn1 : k.keys.length = 0 → (k.nodes : Int) = 1 := fun e => by rw [K.nodes_eq, List.eq_nil_of_length_eq_zero e]; simp
    have HN1 := Lib.hid hn1
    obtain ⟨w2, hw2⟩ : ∃ w2, w2 = (w.setCell ⟨rb, 0, none⟩ (.int .i64 (room - 1))).alloc (.cells #[.int .i64 kd, .int .i64 k.flag, .string k.text, .slice sa sn sc, .slice a L cap] 31) := ⟨_, rfl⟩
    have hk2 : w2.heap[w.heap.size]? = some (.cells #[.int .i64 kd, .int .i64 k.flag, .string k.text, .slice sa sn sc, .slice a L cap] 31 (0, 0)) := by
      have := heap_alloc_new (w.setCell ⟨rb, 0, none⟩ (.int .i64 (room - 1))) (.cells #[.int .i64 kd, .int .i64 k.flag, .string k.text, .slice sa sn sc, .slice a L cap] 31)
      rw [hw2]; simpa [World.setCell] using this
    have hr2 : w2.heap[rb]? = some (.cells #[.int .i64 (room - 1)] 3 (0, 0)) := by
      rw [hw2]; exact (Below.heap_alloc _ _ _ (by simpa [World.setCell] using hlt)).trans (room_set hroom)
    have hg2 : w.grownBy w2 (some rb) := by
      rw [hw2]
      exact grown_trans (cur_grown (grown_refl w (some rb)) 0 _) (World.grownBy_alloc _ _ _)
    obtain ⟨a0, a1⟩ := (show w.cell? ⟨rb, 0, none⟩ = some (.int .i64 room) ∧ w.frozen? ⟨rb, 0, none⟩ = false from by simp [World.cell?, World.frozen?, hroom])
    have nrb := (show ¬ (rb = w.heap.size) ∧ ¬ (w.heap.size = rb) from by omega)
    have HW := Lib.hid hw2; have HK2 := Lib.hid hk2; have HR2 := Lib.hid hr2; have HG2 := Lib.hid hg2
    by_cases hr0 : room = 0
    · have hr : okIn k room = false := okIn_room (by omega)
      have HX := Lib.hid (HBAD.out hr _ HG2.out)
      subst hr0
      rw [HW.out] at HX
      rw [hkd]
      clear hr hbad HBAD h hkey hs hsn hL hkd ih hF hNa hroom hn1 HN1 hw2 hk2 hr2 hg2 HW HK2 HR2 HG2 HR0
      go_enter Tryd.func25, Tryd.ntmps25
      go_wp2_with fail
      go_ret2
      exact HX.out
    have hr1 : 1 ≤ room := by omega
    by_cases h5 : 5 ≤ kd
    · have hbr := keyBranch_of k ih (.agg #[.int .i64 kd, .int .i64 k.flag, .string k.text, .slice sa sn sc, .slice a L cap]) S w2 rb (room - 1) (by rw [← hkd]; exact hkey.grown hN hg2 hrb) (hN.le hg2.size) hF (hNa.grown hg2 hroom) hr2 hrb (by omega) (by omega) (by omega)
      have hbr2 : Calls Tryd.prog 34 #[.agg #[.int .i64 kd, .int .i64 k.flag, .string k.text, .slice sa sn sc, .slice a L cap], .pointer (some ⟨rb, 0, none⟩)] w2 (Built w S rb room k) := by
        refine hbr.mono ?_
        rintro e w' ⟨nd, he, hg, hx⟩
        rw [show room - 1 + 1 = room from by omega] at he hx
        exact ⟨nd, he, grown_trans hg2 hg, hx⟩
      have HBR := Lib.hid hbr2
      obtain ⟨e0, e1, e2, e3, e4, _⟩ := five_cells hk2
      rw [hkd]
      clear hbr hbr2 hbad HBAD h hkey hs hsn hL hkd ih hF hNa hroom hn1 HN1 hw2 hk2 hr2 hg2 hr0
      go_enter Tryd.func25, Tryd.ntmps25
      go_wp2_with fail
      rw [← HW.out]
      refine HBR.out.mono ?_
      rintro e w3 ⟨nd, rfl, hg, hx⟩
      have fin : Built w S rb room k (.returned (.tuple #[nd, .bool (okIn k room)])) w3 := ⟨nd, rfl, hg, hx⟩
      have HX := Lib.hid fin
      clear fin hg hx e0 e1 e2 e3 e4
      go_wp2_with fail
      go_ret2
      exact HX.out
    have hlf := leaf_ok k room hr1 (by omega)
    rw [hkd, hL] at hlf
    have hset : decide (k.set.length = 0) = decide (sn = 0) := by rw [hsn]
    unfold nodeB at hlf
    rw [hset] at hlf
    have hKB : KB w rb (room - 1) #[.int .i64 kd, .int .i64 k.flag, .string k.text, .slice sa sn sc, .slice a L cap] #[.int .i64 kd, .int .i64 k.flag, .string k.text, .slice sa sn sc, .slice a L cap] (w2.alloc (.cells #[.int .i64 kd, .int .i64 k.flag, .string k.text, .slice sa sn sc, .slice a L cap] 31)) := by
      have s2 : w2.heap.size = w.heap.size + 1 := by rw [hw2]; simp [World.setCell]
      refine ⟨(Below.heap_alloc _ _ _ (by omega)).trans hk2, ?_, (Below.heap_alloc _ _ _ (by omega)).trans hr2, grown_trans hg2 (World.grownBy_alloc _ _ _), hlt⟩
      rw [← s2]; exact heap_alloc_new w2 _
    have HB := Lib.hid hKB
    have HLF := Lib.hid hlf
    rw [hkd]
    obtain ⟨b0, b1, b2, b3, b4, _⟩ := five_cells hKB.key
    have k5 : kd < 5 := by omega
    clear hbad h hkey hs hsn hL hkd ih hF hNa hroom hn1 hw2 hk2 hr2 hg2 hr0 hlf hset hKB h5 b0 b1 b2 b3 b4
    obtain ⟨w3, hw3⟩ : ∃ w3, w3 = w2.alloc (.cells #[.int .i64 kd, .int .i64 k.flag, .string k.text, .slice sa sn sc, .slice a L cap] 31) := ⟨_, rfl⟩
    rw [← hw3] at HB
    have HW3 := Lib.hid hw3
    clear hw3
    by_cases k0 : kd = 0
    · subst k0
      have hok : okIn k room = (decide (L = 0) && plainB k.flag k.text sn) := by
        rw [HLF.out]; simp [plainB, Bool.and_comm, Bool.and_left_comm]
      have HOK := Lib.hid hok
      rw [HW3.out, HW.out] at HB
      clear hok HLF HW HW3 HK2 HR2 HG2 HF IH HK0 HS
      go_enter Tryd.func25, Tryd.ntmps25
      obtain ⟨e0, e1, e2, e3, e4, _⟩ := five_cells HB.out.key
      obtain ⟨r0, r1, r2, r3, r4, _⟩ := five_cells HB.out.rest
      by_cases hL0 : L = 0
      · subst hL0
        rcases hp : plainB k.flag k.text sn with _ | _
        · have hr : okIn k room = false := by rw [HOK.out]; rw [hp]; simp
          have hbad := HBAD.out hr
          have HX := Lib.hid hbad
          clear hr hbad
          go_wp2_with fail
          refine (keyPlain_any _ _ _ _ _ _ _ _).mono ?_
          rintro e w5 ⟨rfl, q⟩
          rw [hp]
          have hB5 := HB.out.below q
          have HB5 := Lib.hid hB5
          clear hB5 q e0 e1 e2 e3 e4 r0 r1 r2 r3 r4
          go_wp2_with fail
          go_ret2
          exact HX.out _ HB5.out.gr
        · have hr : okIn k room = true := by rw [HOK.out]; rw [hp]; simp
          have HR := Lib.hid hr
          clear hr
          go_wp2_with fail
          refine (keyPlain_any _ _ _ _ _ _ _ _).mono ?_
          rintro e w5 ⟨rfl, q⟩
          rw [hp]
          have hB5 := HB.out.below q
          have fin : Built w S rb room k (.returned (.tuple #[.iface 74 (.agg #[]), .bool true])) w5 := ⟨_, by rw [HR.out], hB5.gr, fun _ => ⟨NodeAt.all HKD.out, by rw [HN1.out HL.out]; exact hB5.room⟩⟩
          have HX := Lib.hid fin
          clear fin hB5 q e0 e1 e2 e3 e4 r0 r1 r2 r3 r4
          go_wp2_with fail
          go_ret2
          exact HX.out
      · have hr : okIn k room = false := by rw [HOK.out]; simp [hL0]
        have HX := Lib.hid (HBAD.out hr)
        have q0 : ((L : Int) == 0) = false := beq_eq_false_iff_ne.2 (by omega)
        clear hr
        go_wp2_with fail
        go_ret2
        exact HX.out _ HB.out.gr
    have q0 : (kd == 0) = false := beq_eq_false_iff_ne.2 k0
    by_cases k1 : kd = 1
    · subst k1
      rcases hB : flag1 k.flag with _ | _
      · have hr : okIn k room = false := by rw [HLF.out, hB]; simp
        have HX := Lib.hid (HBAD.out hr)
        have y5 := fword_no hB
        clear hr HLF hB
        go_enter Tryd.func25, Tryd.ntmps25
        go_upto_region 14 with fail
        rw [← HW.out, ← HW3.out]
        obtain ⟨e0, e1, e2, e3, e4, _⟩ := five_cells HB.out.key
        obtain ⟨r0, r1, r2, r3, r4, y0, y1, y2, y3, y4⟩ := five_cells HB.out.rest
        go_region_held3 (fun W => W.cell? ⟨w.heap.size, 1, none⟩ = some (.int .i64 k.flag)) (first | exact e1 | (go_keep; done))
          ((go_at_call 29; refine (keyFlagWord_any k.flag _ ?_).mono ?_; (first | (refine Names.grown HNa.out (KB.gr (KB.below HB.out ?_)) HR0.out; (focus (go_grown; done))) | (refine Names.grown HNa.out (KB.gr (KB.below (KB.store HB.out 1 (.int .i64 0)) ?_)) HR0.out; (focus (go_grown; done)))); rintro e wc ⟨rfl, q⟩; (first | (refine kb_intro (KB.below (KB.below HB.out ?_) q) ?_; (focus (go_grown; done)); intro hk) | (refine kb_intro (KB.below (KB.below (KB.store HB.out 1 (.int .i64 0)) ?_) q) ?_; (focus (go_grown; done)); intro hk)); clear e0 e1 e2 e3 e4 r0 r1 r2 r3 r4 y0 y1 y2 y3 y4; obtain ⟨e0, e1, e2, e3, e4, _⟩ := five_cells hk.key; obtain ⟨r0, r1, r2, r3, r4, y0, y1, y2, y3, y4⟩ := five_cells hk.rest; have HK := Lib.hid hk; clear hk q))
        all_goals
          go_wp2_with fail
          go_ret2
          first | (refine HX.out _ (KB.gr (KB.store (KB.below HK.out ?_) 1 (.int .i64 0))); go_grown; done) | (refine HX.out _ (KB.gr (KB.below HK.out ?_)); go_grown; done)
      · have hok : okIn k room = (decide (L = 0) && plainB 0 k.text sn) := by
          rw [HLF.out, hB]; simp [plainB, Bool.and_comm, Bool.and_left_comm]
        have HOK := Lib.hid hok
        obtain ⟨y5, y6⟩ := fword_ne hB
        clear hok HLF hB
        go_enter Tryd.func25, Tryd.ntmps25
        go_upto_region 14 with fail
        rw [← HW.out, ← HW3.out]
        obtain ⟨e0, e1, e2, e3, e4, _⟩ := five_cells HB.out.key
        obtain ⟨r0, r1, r2, r3, r4, y0, y1, y2, y3, y4⟩ := five_cells HB.out.rest
        go_region_held3 (fun W => W.cell? ⟨w.heap.size, 1, none⟩ = some (.int .i64 k.flag)) (first | exact e1 | (go_keep; done))
          ((go_at_call 29; refine (keyFlagWord_any k.flag _ ?_).mono ?_; (first | (refine Names.grown HNa.out (KB.gr (KB.below HB.out ?_)) HR0.out; (focus (go_grown; done))) | (refine Names.grown HNa.out (KB.gr (KB.below (KB.store HB.out 1 (.int .i64 0)) ?_)) HR0.out; (focus (go_grown; done)))); rintro e wc ⟨rfl, q⟩; (first | (refine kb_intro (KB.below (KB.below HB.out ?_) q) ?_; (focus (go_grown; done)); intro hk) | (refine kb_intro (KB.below (KB.below (KB.store HB.out 1 (.int .i64 0)) ?_) q) ?_; (focus (go_grown; done)); intro hk)); clear e0 e1 e2 e3 e4 r0 r1 r2 r3 r4 y0 y1 y2 y3 y4; obtain ⟨e0, e1, e2, e3, e4, _⟩ := five_cells hk.key; obtain ⟨r0, r1, r2, r3, r4, y0, y1, y2, y3, y4⟩ := five_cells hk.rest; have HK := Lib.hid hk; clear hk q))
        all_goals
          by_cases hL0 : L = 0
          · subst hL0
            rcases hp : plainB 0 k.text sn with _ | _
            · have hr : okIn k room = false := by rw [HOK.out]; rw [hp]; simp
              have hbad := HBAD.out hr
              have HX := Lib.hid hbad
              clear hr hbad
              go_wp2_with fail
              refine (keyPlain_any _ _ _ _ _ _ _ _).mono ?_
              rintro e w5 ⟨rfl, q⟩
              rw [hp]
              (first | (refine kb_intro (KB.below (KB.store (KB.below HK.out ?_) 1 (.int .i64 0)) q) ?_; (focus (go_grown; done)); intro hB5) | (refine kb_intro (KB.below (KB.below HK.out ?_) q) ?_; (focus (go_grown; done)); intro hB5))
              have HB5 := Lib.hid hB5
              clear hB5 q e0 e1 e2 e3 e4 r0 r1 r2 r3 r4
              go_wp2_with fail
              go_ret2
              exact HX.out _ HB5.out.gr
            · have hr : okIn k room = true := by rw [HOK.out]; rw [hp]; simp
              have HR := Lib.hid hr
              clear hr
              go_wp2_with fail
              refine (keyPlain_any _ _ _ _ _ _ _ _).mono ?_
              rintro e w5 ⟨rfl, q⟩
              rw [hp]
              (first | (refine kb_intro (KB.below (KB.store (KB.below HK.out ?_) 1 (.int .i64 0)) q) ?_; (focus (go_grown; done)); intro hB5) | (refine kb_intro (KB.below (KB.below HK.out ?_) q) ?_; (focus (go_grown; done)); intro hB5))
              have fin : Built w S rb room k (.returned (.tuple #[.iface 59 (.agg #[.int .i64 k.flag]), .bool true])) w5 := ⟨_, by rw [HR.out], hB5.gr, fun _ => ⟨NodeAt.has HKD.out, by rw [HN1.out HL.out]; exact hB5.room⟩⟩
              have HX := Lib.hid fin
              clear fin hB5 q e0 e1 e2 e3 e4 r0 r1 r2 r3 r4
              go_wp2_with fail
              go_ret2
              exact HX.out
          · have hr : okIn k room = false := by rw [HOK.out]; simp [hL0]
            have HX := Lib.hid (HBAD.out hr)
            have q0 : ((L : Int) == 0) = false := beq_eq_false_iff_ne.2 (by omega)
            clear hr
            go_wp2_with fail
            go_ret2
            first | (refine HX.out _ (KB.gr (KB.store (KB.below HK.out ?_) 1 (.int .i64 0))); go_grown; done) | (refine HX.out _ (KB.gr (KB.below HK.out ?_)); go_grown; done)
    have q1 : (kd == 1) = false := beq_eq_false_iff_ne.2 k1
    by_cases k2 : kd = 2
    · subst k2
      have hok : okIn k room = (nameOk k.text && decide (L = 0) && plainB k.flag ⟨#[]⟩ sn) := by
        rw [HLF.out]; simp [plainB, Bool.and_comm, Bool.and_left_comm, Bool.and_assoc, show (⟨#[]⟩ : ByteArray).size = 0 from rfl]
      have HOK := Lib.hid hok
      have htx : k.text.size ≤ maxLen := by have := HF.out.text; unfold maxLen; omega
      clear hok HLF
      go_enter Tryd.func25, Tryd.ntmps25
      go_upto_region 16 with fail
      rw [← HW.out, ← HW3.out]
      obtain ⟨e0, e1, e2, e3, e4, _⟩ := five_cells HB.out.key
      obtain ⟨r0, r1, r2, r3, r4, y0, y1, y2, y3, y4⟩ := five_cells HB.out.rest
      go_region_held3 (fun W => W.cell? ⟨w.heap.size, 2, none⟩ = some (.string k.text)) (first | exact e2 | (go_keep; done))
        ((go_at_call 35; refine (implNameValid_any k.text _ htx).mono ?_; rintro e wc ⟨rfl, q⟩; (first | (refine kb_intro (KB.below (KB.below HB.out ?_) q) ?_; (focus (go_grown; done)); intro hk) | (refine kb_intro (KB.below (KB.below (KB.store HB.out 2 (.string ⟨#[]⟩)) ?_) q) ?_; (focus (go_grown; done)); intro hk)); clear e0 e1 e2 e3 e4 r0 r1 r2 r3 r4 y0 y1 y2 y3 y4; obtain ⟨e0, e1, e2, e3, e4, _⟩ := five_cells hk.key; obtain ⟨r0, r1, r2, r3, r4, y0, y1, y2, y3, y4⟩ := five_cells hk.rest; have HK := Lib.hid hk; clear hk q))
      all_goals
        rcases hB : nameOk k.text with _ | _
        · have hr : okIn k room = false := by rw [HOK.out, hB]; rfl
          have HX := Lib.hid (HBAD.out hr)
          clear hr
          try rw [hB]
          go_wp2_with fail
          go_ret2
          first | (refine HX.out _ (KB.gr (KB.store (KB.below HK.out ?_) 2 (.string ⟨#[]⟩))); go_grown; done) | (refine HX.out _ (KB.gr (KB.below HK.out ?_)); go_grown; done)
        have HBB := Lib.hid hB
        try rw [hB]
        clear hB
        by_cases hL0 : L = 0
        · subst hL0
          rcases hp : plainB k.flag ⟨#[]⟩ sn with _ | _
          · have hr : okIn k room = false := by rw [HOK.out, HBB.out]; rw [hp]; simp
            have hbad := HBAD.out hr
            have HX := Lib.hid hbad
            clear hr hbad
            go_wp2_with fail
            refine (keyPlain_any _ _ _ _ _ _ _ _).mono ?_
            rintro e w5 ⟨rfl, q⟩
            rw [hp]
            (first | (refine kb_intro (KB.below (KB.store (KB.below HK.out ?_) 2 (.string ⟨#[]⟩)) q) ?_; (focus (go_grown; done)); intro hB5) | (refine kb_intro (KB.below (KB.below HK.out ?_) q) ?_; (focus (go_grown; done)); intro hB5))
            have HB5 := Lib.hid hB5
            clear hB5 q e0 e1 e2 e3 e4 r0 r1 r2 r3 r4
            go_wp2_with fail
            go_ret2
            exact HX.out _ HB5.out.gr
          · have hr : okIn k room = true := by rw [HOK.out, HBB.out]; rw [hp]; simp
            have HR := Lib.hid hr
            clear hr
            go_wp2_with fail
            refine (keyPlain_any _ _ _ _ _ _ _ _).mono ?_
            rintro e w5 ⟨rfl, q⟩
            rw [hp]
            (first | (refine kb_intro (KB.below (KB.store (KB.below HK.out ?_) 2 (.string ⟨#[]⟩)) q) ?_; (focus (go_grown; done)); intro hB5) | (refine kb_intro (KB.below (KB.below HK.out ?_) q) ?_; (focus (go_grown; done)); intro hB5))
            have fin : Built w S rb room k (.returned (.tuple #[.iface 62 (.agg #[.string k.text]), .bool true])) w5 := ⟨_, by rw [HR.out], hB5.gr, fun _ => ⟨NodeAt.txt HKD.out, by rw [HN1.out HL.out]; exact hB5.room⟩⟩
            have HX := Lib.hid fin
            clear fin hB5 q e0 e1 e2 e3 e4 r0 r1 r2 r3 r4
            go_wp2_with fail
            go_ret2
            exact HX.out
        · have hr : okIn k room = false := by rw [HOK.out, HBB.out]; simp [hL0]
          have HX := Lib.hid (HBAD.out hr)
          have q0 : ((L : Int) == 0) = false := beq_eq_false_iff_ne.2 (by omega)
          clear hr
          go_wp2_with fail
          go_ret2
          first | (refine HX.out _ (KB.gr (KB.store (KB.below HK.out ?_) 2 (.string ⟨#[]⟩))); go_grown; done) | (refine HX.out _ (KB.gr (KB.below HK.out ?_)); go_grown; done)
    have q2 : (kd == 2) = false := beq_eq_false_iff_ne.2 k2
    by_cases k3 : kd = 3
    · subst k3
      have hok : okIn k room = (setOk k.set && decide (L = 0) && plainB k.flag k.text 0) := by
        rw [HLF.out]; simp [plainB, Bool.and_comm, Bool.and_left_comm, Bool.and_assoc]
      have HOK := Lib.hid hok
      clear hok HLF
      go_enter Tryd.func25, Tryd.ntmps25
      go_upto_region 18 with fail
      rw [← HW.out, ← HW3.out]
      obtain ⟨e0, e1, e2, e3, e4, _⟩ := five_cells HB.out.key
      obtain ⟨r0, r1, r2, r3, r4, y0, y1, y2, y3, y4⟩ := five_cells HB.out.rest
      go_region_held3 (fun W => W.cell? ⟨w.heap.size, 3, none⟩ = some (.slice sa sn sc)) (first | exact e3 | (go_keep; done))
        ((go_at_call 36; refine (implSetValid_any k.set _ S _ ?_ ?_).mono ?_; (first | (refine SetAt.grown HS.out hN (KB.gr (KB.below HB.out ?_)) hrb; (focus (go_grown; done))) | (refine SetAt.grown HS.out hN (KB.gr (KB.below (KB.store HB.out 3 (.slice none 0 0)) ?_)) hrb; (focus (go_grown; done)))); (first | (refine Ins.le hN (KB.gr (KB.below HB.out ?_)).size; (focus (go_grown; done))) | (refine Ins.le hN (KB.gr (KB.below (KB.store HB.out 3 (.slice none 0 0)) ?_)).size; (focus (go_grown; done)))); rintro e wc ⟨rfl, q⟩; (first | (refine kb_intro (KB.below (KB.below HB.out ?_) q) ?_; (focus (go_grown; done)); intro hk) | (refine kb_intro (KB.below (KB.below (KB.store HB.out 3 (.slice none 0 0)) ?_) q) ?_; (focus (go_grown; done)); intro hk)); clear e0 e1 e2 e3 e4 r0 r1 r2 r3 r4 y0 y1 y2 y3 y4; obtain ⟨e0, e1, e2, e3, e4, _⟩ := five_cells hk.key; obtain ⟨r0, r1, r2, r3, r4, y0, y1, y2, y3, y4⟩ := five_cells hk.rest; have HK := Lib.hid hk; clear hk q))
      all_goals
        rcases hB : setOk k.set with _ | _
        · have hr : okIn k room = false := by rw [HOK.out, hB]; rfl
          have HX := Lib.hid (HBAD.out hr)
          clear hr
          try rw [hB]
          go_wp2_with fail
          go_ret2
          first | (refine HX.out _ (KB.gr (KB.store (KB.below HK.out ?_) 3 (.slice none 0 0))); go_grown; done) | (refine HX.out _ (KB.gr (KB.below HK.out ?_)); go_grown; done)
        have HBB := Lib.hid hB
        try rw [hB]
        clear hB
        by_cases hL0 : L = 0
        · subst hL0
          rcases hp : plainB k.flag k.text 0 with _ | _
          · have hr : okIn k room = false := by rw [HOK.out, HBB.out]; rw [hp]; simp
            have hbad := HBAD.out hr
            have HX := Lib.hid hbad
            clear hr hbad
            go_wp2_with fail
            refine (keyPlain_any _ _ _ _ _ _ _ _).mono ?_
            rintro e w5 ⟨rfl, q⟩
            rw [hp]
            (first | (refine kb_intro (KB.below (KB.store (KB.below HK.out ?_) 3 (.slice none 0 0)) q) ?_; (focus (go_grown; done)); intro hB5) | (refine kb_intro (KB.below (KB.below HK.out ?_) q) ?_; (focus (go_grown; done)); intro hB5))
            have HB5 := Lib.hid hB5
            clear hB5 q e0 e1 e2 e3 e4 r0 r1 r2 r3 r4
            go_wp2_with fail
            go_ret2
            exact HX.out _ HB5.out.gr
          · have hr : okIn k room = true := by rw [HOK.out, HBB.out]; rw [hp]; simp
            have HR := Lib.hid hr
            clear hr
            go_wp2_with fail
            refine (keyPlain_any _ _ _ _ _ _ _ _).mono ?_
            rintro e w5 ⟨rfl, q⟩
            rw [hp]
            (first | (refine kb_intro (KB.below (KB.store (KB.below HK.out ?_) 3 (.slice none 0 0)) q) ?_; (focus (go_grown; done)); intro hB5) | (refine kb_intro (KB.below (KB.below HK.out ?_) q) ?_; (focus (go_grown; done)); intro hB5))
            have fin : Built w S rb room k (.returned (.tuple #[.iface 64 (.agg #[.slice sa sn sc]), .bool true])) w5 := ⟨_, by rw [HR.out], hB5.gr, fun _ => ⟨NodeAt.place HKD.out (HS.out.grown hN hB5.gr hrb), by rw [HN1.out HL.out]; exact hB5.room⟩⟩
            have HX := Lib.hid fin
            clear fin hB5 q e0 e1 e2 e3 e4 r0 r1 r2 r3 r4
            go_wp2_with fail
            go_ret2
            exact HX.out
        · have hr : okIn k room = false := by rw [HOK.out, HBB.out]; simp [hL0]
          have HX := Lib.hid (HBAD.out hr)
          have q0 : ((L : Int) == 0) = false := beq_eq_false_iff_ne.2 (by omega)
          clear hr
          go_wp2_with fail
          go_ret2
          first | (refine HX.out _ (KB.gr (KB.store (KB.below HK.out ?_) 3 (.slice none 0 0))); go_grown; done) | (refine HX.out _ (KB.gr (KB.below HK.out ?_)); go_grown; done)
    have q3 : (kd == 3) = false := beq_eq_false_iff_ne.2 k3
    by_cases k4 : kd = 4
    · subst k4
      have hok : okIn k room = (setOk k.set && decide (L = 0) && plainB k.flag k.text 0) := by
        rw [HLF.out]; simp [plainB, Bool.and_comm, Bool.and_left_comm, Bool.and_assoc]
      have HOK := Lib.hid hok
      clear hok HLF
      go_enter Tryd.func25, Tryd.ntmps25
      go_upto_region 20 with fail
      rw [← HW.out, ← HW3.out]
      obtain ⟨e0, e1, e2, e3, e4, _⟩ := five_cells HB.out.key
      obtain ⟨r0, r1, r2, r3, r4, y0, y1, y2, y3, y4⟩ := five_cells HB.out.rest
      go_region_held3 (fun W => W.cell? ⟨w.heap.size, 3, none⟩ = some (.slice sa sn sc)) (first | exact e3 | (go_keep; done))
        ((go_at_call 36; refine (implSetValid_any k.set _ S _ ?_ ?_).mono ?_; (first | (refine SetAt.grown HS.out hN (KB.gr (KB.below HB.out ?_)) hrb; (focus (go_grown; done))) | (refine SetAt.grown HS.out hN (KB.gr (KB.below (KB.store HB.out 3 (.slice none 0 0)) ?_)) hrb; (focus (go_grown; done)))); (first | (refine Ins.le hN (KB.gr (KB.below HB.out ?_)).size; (focus (go_grown; done))) | (refine Ins.le hN (KB.gr (KB.below (KB.store HB.out 3 (.slice none 0 0)) ?_)).size; (focus (go_grown; done)))); rintro e wc ⟨rfl, q⟩; (first | (refine kb_intro (KB.below (KB.below HB.out ?_) q) ?_; (focus (go_grown; done)); intro hk) | (refine kb_intro (KB.below (KB.below (KB.store HB.out 3 (.slice none 0 0)) ?_) q) ?_; (focus (go_grown; done)); intro hk)); clear e0 e1 e2 e3 e4 r0 r1 r2 r3 r4 y0 y1 y2 y3 y4; obtain ⟨e0, e1, e2, e3, e4, _⟩ := five_cells hk.key; obtain ⟨r0, r1, r2, r3, r4, y0, y1, y2, y3, y4⟩ := five_cells hk.rest; have HK := Lib.hid hk; clear hk q))
      all_goals
        rcases hB : setOk k.set with _ | _
        · have hr : okIn k room = false := by rw [HOK.out, hB]; rfl
          have HX := Lib.hid (HBAD.out hr)
          clear hr
          try rw [hB]
          go_wp2_with fail
          go_ret2
          first | (refine HX.out _ (KB.gr (KB.store (KB.below HK.out ?_) 3 (.slice none 0 0))); go_grown; done) | (refine HX.out _ (KB.gr (KB.below HK.out ?_)); go_grown; done)
        have HBB := Lib.hid hB
        try rw [hB]
        clear hB
        by_cases hL0 : L = 0
        · subst hL0
          rcases hp : plainB k.flag k.text 0 with _ | _
          · have hr : okIn k room = false := by rw [HOK.out, HBB.out]; rw [hp]; simp
            have hbad := HBAD.out hr
            have HX := Lib.hid hbad
            clear hr hbad
            go_wp2_with fail
            refine (keyPlain_any _ _ _ _ _ _ _ _).mono ?_
            rintro e w5 ⟨rfl, q⟩
            rw [hp]
            (first | (refine kb_intro (KB.below (KB.store (KB.below HK.out ?_) 3 (.slice none 0 0)) q) ?_; (focus (go_grown; done)); intro hB5) | (refine kb_intro (KB.below (KB.below HK.out ?_) q) ?_; (focus (go_grown; done)); intro hB5))
            have HB5 := Lib.hid hB5
            clear hB5 q e0 e1 e2 e3 e4 r0 r1 r2 r3 r4
            go_wp2_with fail
            go_ret2
            exact HX.out _ HB5.out.gr
          · have hr : okIn k room = true := by rw [HOK.out, HBB.out]; rw [hp]; simp
            have HR := Lib.hid hr
            clear hr
            go_wp2_with fail
            refine (keyPlain_any _ _ _ _ _ _ _ _).mono ?_
            rintro e w5 ⟨rfl, q⟩
            rw [hp]
            (first | (refine kb_intro (KB.below (KB.store (KB.below HK.out ?_) 3 (.slice none 0 0)) q) ?_; (focus (go_grown; done)); intro hB5) | (refine kb_intro (KB.below (KB.below HK.out ?_) q) ?_; (focus (go_grown; done)); intro hB5))
            have fin : Built w S rb room k (.returned (.tuple #[.iface 65 (.agg #[.slice sa sn sc]), .bool true])) w5 := ⟨_, by rw [HR.out], hB5.gr, fun _ => ⟨NodeAt.uid HKD.out (HS.out.grown hN hB5.gr hrb), by rw [HN1.out HL.out]; exact hB5.room⟩⟩
            have HX := Lib.hid fin
            clear fin hB5 q e0 e1 e2 e3 e4 r0 r1 r2 r3 r4
            go_wp2_with fail
            go_ret2
            exact HX.out
        · have hr : okIn k room = false := by rw [HOK.out, HBB.out]; simp [hL0]
          have HX := Lib.hid (HBAD.out hr)
          have q0 : ((L : Int) == 0) = false := beq_eq_false_iff_ne.2 (by omega)
          clear hr
          go_wp2_with fail
          go_ret2
          first | (refine HX.out _ (KB.gr (KB.store (KB.below HK.out ?_) 3 (.slice none 0 0))); go_grown; done) | (refine HX.out _ (KB.gr (KB.below HK.out ?_)); go_grown; done)
    have q4 : (kd == 4) = false := beq_eq_false_iff_ne.2 k4
    have hr : okIn k room = false := by
      rw [HLF.out, if_neg k0, if_neg k1, if_neg k2, if_neg (by omega), if_neg (by omega), if_neg (by omega), Bool.and_false]
    have HX := Lib.hid (HBAD.out hr _ HB.out.gr)
    rw [HW3.out, HW.out] at HX
    clear hr k0 k1 k2 k3 k4 HB HW3 HW HLF
    go_enter Tryd.func25, Tryd.ntmps25
    go_wp2_with fail
    go_ret2
    exact HX.out
end Go.Proofs.YtgcdopmidmelfaaDoor

/- Walks: may an order be told, in the document's own words. -/
import Derived.Test.YtifmdkcpbajdcabDoorPrint
import Derived.Test.YtifmdkcpbajdcabDoorRefDec
import Derived.Test.YtifmdkcpbajdcabDoorPlans
set_option linter.unusedVariables false
set_option linter.unusedSimpArgs false
namespace Go.Proofs.YtifmdkcpbajdcabDoor
open Go.RowKit Go.Proofs Plain

theorem refWB_get {K : Nat} (h1 : 1 ≤ K) (hK : K < 15) : refWB.getD (K - 1) ByteArray.empty = bs (refW K) := by
  obtain rfl | rfl | rfl | rfl | rfl | rfl | rfl | rfl | rfl | rfl | rfl | rfl | rfl | rfl : K = 1 ∨ K = 2 ∨ K = 3 ∨ K = 4 ∨ K = 5 ∨ K = 6 ∨ K = 7 ∨ K = 8 ∨ K = 9 ∨ K = 10 ∨ K = 11 ∨ K = 12 ∨ K = 13 ∨ K = 14 := by omega
  all_goals rfl
theorem refW_len {K : Nat} (hK : K < 15) : 2 ≤ (bs (refW K)).size ∧ (bs (refW K)).size ≤ 20 := by
  rw [bs_size]; unfold refW
  have := words_len K hK
  simp only [List.length_append, List.length_cons, List.length_nil]
  omega
theorem refW_idx {K : Nat} (h1 : 1 ≤ K) (hK : K < 15) (w : World) : (Instr.index 9 (.string (bs (refW K))) (.int .i64 (((bs (refW K)).size : Nat) - 1 : Int))).run Tryd.prog w = .ok (.int .u8 (48 + (countsL.getD K 0 : Nat) : Int)) w := by
  obtain rfl | rfl | rfl | rfl | rfl | rfl | rfl | rfl | rfl | rfl | rfl | rfl | rfl | rfl : K = 1 ∨ K = 2 ∨ K = 3 ∨ K = 4 ∨ K = 5 ∨ K = 6 ∨ K = 7 ∨ K = 8 ∨ K = 9 ∨ K = 10 ∨ K = 11 ∨ K = 12 ∨ K = 13 ∨ K = 14 := by omega
  all_goals kernel_rfl

theorem withinR_is {n lo hi : Int} {b : Bool} (w : World) (h : (decide (lo ≤ n) && decide (n ≤ hi)) = b) :
    Calls Tryd.prog 21 #[.int .i64 n, .int .i64 lo, .int .i64 hi] w fun e w' => e = .returned (.bool b) ∧ w' = w := by
  subst h; exact withinR n lo hi w

abbrev SpaceTab (B : Nat) (w : World) : Prop := Lib.TabBelow Tryd.prog B w "strings.asciiSpace" .u8 Lib.asciiSpaceTab

set_option maxRecDepth 100000 in
set_option maxHeartbeats 16000000 in
theorem isOrder_any (B : Nat) (o : Order) (w : World) (ho : OrdWf o) (hBs : B ≤ w.heap.size) (hT : SpaceTab B w) :
    Calls Tryd.prog 9 #[.agg (ordA o)] w fun e w' => e = .returned (.bool (goodO o)) ∧ Below w.heap.size w w' := by
  have HW := Lib.hid (fun w' (hb : Below w.heap.size w w') => wordsOf_any w' (Lib.TabBelow.here (Lib.TabBelow.on hT (hb.mono hBs))))
  clear hT
  obtain ⟨⟨k0, k1⟩, ⟨a0, a1⟩, ⟨b0, b1⟩, ⟨c0, c1⟩⟩ := ho
  have hB0 : Below w.heap.size w (w.alloc (.cells (ordA o) 23)) := (Below.refl _ _).alloc (Nat.le_refl _) _
  have hO0 := OrdAt.new w o
  by_cases hk : 1 ≤ o.kind ∧ o.kind ≤ 14
  · have HG := Lib.hid (goodO_okN o hk.1 hk.2)
    obtain ⟨K, hKK⟩ : ∃ K : Nat, o.kind = (K : Int) := ⟨o.kind.toNat, by omega⟩
    have hK : K < 15 := by omega
    have hK1 : 1 ≤ K := by omega
    have hC3 := counts_le K hK
    have hget := refWB_get hK1 hK
    obtain ⟨hL1, hL2⟩ := refW_len hK
    have hix := refW_idx hK1 hK
    rw [hKK, Int.toNat_natCast] at HG
    obtain ⟨C, hC⟩ : ∃ C, countsL.getD K 0 = C := ⟨_, rfl⟩
    obtain ⟨X, hX⟩ : ∃ X, bs (refW K) = X := ⟨_, rfl⟩
    obtain ⟨L, hL⟩ : ∃ L, X.size = L := ⟨_, rfl⟩
    obtain ⟨J, hJ⟩ : ∃ J, K - 1 = J := ⟨_, rfl⟩
    rw [hX] at hget hL1 hL2 hix
    rw [hL] at hL1 hL2 hix
    rw [hC] at hC3 HG hix
    rw [hJ] at hget
    obtain ⟨kd, a, b, c⟩ := o
    dsimp only at *
    have hsub : kd - 1 = (J : Int) := by omega
    have j0 : (0 : Int) ≤ J := by omega
    have j1 : (J : Int) < 14 := by omega
    have s0 : (-9223372036854775808 : Int) ≤ J := by omega
    have s1 : (J : Int) ≤ 9223372036854775807 := by omega
    have jl : J < 14 := by omega
    have jb : decide ((J : Int) < 14) = true := by simpa using j1
    have hw1 := withinR_is (n := kd) (lo := 1) (hi := 14) (b := true) (h := by simp; omega)
    have HW1 := Lib.hid hw1
    have q0 : (1 : Int) ≤ kd := hk.1
    have q1 : kd < 15 := by omega
    have q2 : kd ≤ 14 := hk.2
    have q3 : kd - 1 < 14 := by omega
    have q4 : 0 ≤ kd - 1 := by omega
    have hwr : IntKind.i64.wrap (J : Int) = (J : Int) := IntWalk.i64_in _ (by omega)
    clear hC hX hJ hKK hK hK1 hw1 k0 k1 hk K
    obtain ⟨f0, f1, f2, f3, e0, e1, e2, e3⟩ := hO0.facts
    dsimp only at e0 e1 e2 e3
    obtain ⟨W, hW⟩ : ∃ W, W = w.alloc (.cells (ordA ⟨kd, a, b, c⟩) 23) := ⟨_, rfl⟩
    rw [← hW] at hB0 hO0 e0 e1 e2 e3
    clear f0 f1 f2 f3
    simp only [ordA] at hW ⊢
    go_enter Tryd.func9, Tryd.ntmps9
    go_wp2_with fail
    rw [← hW]
    clear hW
    go_wp2_with fail
    refine (HW1.out _).mono ?_
    rintro e w1 ⟨rfl, rfl⟩
    go_wp2_with fail
    have hD := hO0
    have hB := hB0
    go_cut [3] (fun x3 wq => x3 = .string X ∧ OrdAt wq w.heap.size ⟨kd, a, b, c⟩ ∧ Below w.heap.size w wq)
    case first => as_aux_lemma =>
      have hBd : Below w.heap.size w w1.drew := ⟨hB.os, hB.tape, hB.output, hB.size, hB.block⟩
      have hDd : OrdAt w1.drew w.heap.size ⟨kd, a, b, c⟩ := hD
      refine wp_region_plans (S := fun w' => w'.cell? ⟨w.heap.size, 0, none⟩ = some (.int .i64 kd)) (.take 1 (.take 2 (.take 3 (.one 0 (.take 4 (.one 5 (.take 6 .fin))))))) (by kernel_rfl) (by kernel_rfl) hDd.cell0 ?_
      refine plan_take (v := ?_) rfl (by rfl) (fun w' hw' => ?_) ?_
      rotate_left
      · go_simp; try with_reducible rfl
      try simp only [Act.put, List.getElem_toArray, List.getElem_cons_zero, List.getElem_cons_succ, List.setIfInBounds_toArray, List.set_cons_zero, List.set_cons_succ]
      refine plan_take (v := ?_) rfl (by rfl) (fun w' hw' => ?_) ?_
      rotate_left
      · go_simp; try with_reducible rfl
      try simp only [Act.put, List.getElem_toArray, List.getElem_cons_zero, List.getElem_cons_succ, List.setIfInBounds_toArray, List.set_cons_zero, List.set_cons_succ]
      refine plan_take (v := ?_) rfl (by rfl) (fun w' hw' => ?_) ?_
      rotate_left
      · go_simp; try with_reducible rfl
      try simp only [Act.put, List.getElem_toArray, List.getElem_cons_zero, List.getElem_cons_succ, List.setIfInBounds_toArray, List.set_cons_zero, List.set_cons_succ]
      refine plan_one rfl (by rfl) fun K hK => ?_
      go_simp
      go_at_call 12
      refine (HW.out _ hBd).mono ?_
      rintro e w5 ⟨A5, c5, rfl, h5, hb5⟩
      have hD5 := hDd.below hb5 hDd.lt
      have hB5 := below_line hBd hb5
      obtain ⟨b5, off5, hA5, hlt5, hc5⟩ := str_at h5 (by rw [refWB_len]; omega)
      subst hA5
      have hcJ := hc5 J (by rw [refWB_len]; omega)
      rw [hget] at hcJ
      rw [refWB_len]
      refine hK.out _ _ hD5.cell0 ?_
      clear hK K hc5 h5
      try simp only [Act.put, List.getElem_toArray, List.getElem_cons_zero, List.getElem_cons_succ, List.setIfInBounds_toArray, List.set_cons_zero, List.set_cons_succ]
      refine plan_take (v := ?_) rfl (by rfl) (fun w' hw' => ?_) ?_
      rotate_left
      · go_simp; try with_reducible rfl
      try simp only [Act.put, List.getElem_toArray, List.getElem_cons_zero, List.getElem_cons_succ, List.setIfInBounds_toArray, List.set_cons_zero, List.set_cons_succ]
      refine plan_one rfl (by rfl) fun K hK => ?_
      go_simp
      refine hK.out _ _ hD5.cell0 ?_
      clear hK K
      try simp only [Act.put, List.getElem_toArray, List.getElem_cons_zero, List.getElem_cons_succ, List.setIfInBounds_toArray, List.set_cons_zero, List.set_cons_succ]
      refine plan_take (v := ?_) rfl (by rfl) (fun w' hw' => ?_) ?_
      rotate_left
      · go_simp; try with_reducible rfl
      try simp only [Act.put, List.getElem_toArray, List.getElem_cons_zero, List.getElem_cons_succ, List.setIfInBounds_toArray, List.set_cons_zero, List.set_cons_succ]
      refine plan_done (NoPanic.normal ?_)
      all_goals
        go_wp2_with fail
        go_meet
        exact ⟨rfl, hD5, hB5⟩
    clear hD hB hO0 hB0 e0 e1 e2 e3 HW HW1 hget
    obtain ⟨rfl, hD, hB⟩ := hcut
    obtain ⟨f0, f1, f2, f3, e0, e1, e2, e3⟩ := hD.facts
    dsimp only at e0 e1 e2 e3
    clear f0 f1 f2 f3 hD
    have hwL : IntKind.i64.wrap ((L : Int) - 1) = (L : Int) - 1 := IntWalk.i64_in _ (by omega)
    have hwC : IntKind.i64.wrap (C : Int) = (C : Int) := IntWalk.i64_in _ (by omega)
    have hwC2 : IntKind.i64.wrap (48 + (C : Int)) = 48 + (C : Int) := IntWalk.i64_in _ (by omega)
    have hsC : 48 + (C : Int) - 48 = (C : Int) := by omega
    clear hsub j0 j1 s0 s1 jl jb q0 q1 q2 q3 q4 hwr
    obtain ⟨ci, hci⟩ : ∃ ci : Int, (C : Int) = ci := ⟨_, rfl⟩
    rw [hci] at hix hwC hwC2 hsC
    have HCI := Lib.hid hci
    clear hci
    go_wp2_with fail
    have hB3 := hB.alloc hB.size (.cells #[.int .i64 a, .int .i64 b, .int .i64 c] 3)
    clear e0 e1 e2 e3 hB hix hL hL1 hL2 hwL hwC hwC2 hsC
    go_loopw [34] (fun i wr => ∃ k : Int, 0 ≤ k ∧ k ≤ 3 ∧ i = .int .i64 k ∧ wr = wc.alloc (.cells #[.int .i64 a, .int .i64 b, .int .i64 c] 3) ∧ ∀ j, 0 ≤ j → j < k → okN C j (nth3 a b c j) = true) (fun i _ => (3 - intOf i).toNat)
    case atStart => exact ⟨0, by omega, by omega, rfl, rfl, fun j h1 h2 => by omega⟩
    case round =>
      obtain ⟨k, hk0, hk3, rfl, rfl, hall⟩ := hrel
      have HA := Lib.hid hall
      clear hall
      obtain rfl | rfl | rfl | rfl : k = 0 ∨ k = 1 ∨ k = 2 ∨ k = 3 := by omega
      · cases hok : okN C 0 a with
        | true =>
          obtain ⟨g1, g2, g3⟩ := okN_yes hok
          have HOK := Lib.hid hok
          clear hok
          have HI := Lib.hid (fun w => withinR_is (n := a) (lo := -1073741824) (hi := 1073741824) (b := true) w (by simp; omega))
          by_cases hc : ci ≤ 0
          · obtain rfl : a = 0 := by have := HCI.out; omega
            have l3 : decide (ci ≤ 0) = true := by simpa using hc
            go_wp2_with fail
            refine (HI.out _).mono ?_
            rintro e wz ⟨rfl, rfl⟩
            go_wp2_with fail
            go_roundw
            case rel => exact ⟨1, by omega, by omega, rfl, by first | trivial | rfl, fun j h1 h2 => by
              obtain h | rfl : j < 0 ∨ j = 0 := by omega
              · exact HA.out j h1 h
              · exact HOK.out⟩
            case measure => simp [intOf]
          · have l3 : decide (ci ≤ 0) = false := by simpa using hc
            go_wp2_with fail
            refine (HI.out _).mono ?_
            rintro e wz ⟨rfl, rfl⟩
            go_wp2_with fail
            go_roundw
            case rel => exact ⟨1, by omega, by omega, rfl, by first | trivial | rfl, fun j h1 h2 => by
              obtain h | rfl : j < 0 ∨ j = 0 := by omega
              · exact HA.out j h1 h
              · exact HOK.out⟩
            case measure => simp [intOf]
        | false =>
          have HF := Lib.hid (show goodO ⟨kd, a, b, c⟩ = false by rw [HG.out, hok]; simp)
          have hno : a < -1073741824 ∨ 1073741824 < a ∨ ((C : Int) ≤ 0 ∧ a ≠ 0) := by
            simp only [okN, inLim, Bool.and_eq_false_iff, Bool.or_eq_false_iff, decide_eq_false_iff_not] at hok
            omega
          clear hok
          by_cases h1 : -1073741824 ≤ a ∧ a ≤ 1073741824
          · have HI := Lib.hid (fun w => withinR_is (n := a) (lo := -1073741824) (hi := 1073741824) (b := true) w (by simp; omega))
            have hck : ci ≤ 0 := by have := HCI.out; omega
            have l3 : decide (ci ≤ 0) = true := by simpa using hck
            have l4 : (a == 0) = false := by simp; omega
            have l5 : (a != 0) = true := by simp; omega
            have l6 : a ≠ 0 := by omega
            clear hno
            go_wp2_with fail
            refine (HI.out _).mono ?_
            rintro e wz ⟨rfl, rfl⟩
            go_wp2_with fail
            go_ret
            exact ⟨ret_bool2 HF.out.symm, hB3⟩
          · have HI := Lib.hid (fun w => withinR_is (n := a) (lo := -1073741824) (hi := 1073741824) (b := false) w (by rw [← Bool.not_eq_true]; simp; omega))
            clear hno
            go_wp2_with fail
            refine (HI.out _).mono ?_
            rintro e wz ⟨rfl, rfl⟩
            go_wp2_with fail
            go_ret
            exact ⟨ret_bool2 HF.out.symm, hB3⟩
      · cases hok : okN C 1 b with
        | true =>
          obtain ⟨g1, g2, g3⟩ := okN_yes hok
          have HOK := Lib.hid hok
          clear hok
          have HI := Lib.hid (fun w => withinR_is (n := b) (lo := -1073741824) (hi := 1073741824) (b := true) w (by simp; omega))
          by_cases hc : ci ≤ 1
          · obtain rfl : b = 0 := by have := HCI.out; omega
            have l3 : decide (ci ≤ 1) = true := by simpa using hc
            go_wp2_with fail
            refine (HI.out _).mono ?_
            rintro e wz ⟨rfl, rfl⟩
            go_wp2_with fail
            go_roundw
            case rel => exact ⟨2, by omega, by omega, rfl, by first | trivial | rfl, fun j h1 h2 => by
              obtain h | rfl : j < 1 ∨ j = 1 := by omega
              · exact HA.out j h1 h
              · exact HOK.out⟩
            case measure => simp [intOf]
          · have l3 : decide (ci ≤ 1) = false := by simpa using hc
            go_wp2_with fail
            refine (HI.out _).mono ?_
            rintro e wz ⟨rfl, rfl⟩
            go_wp2_with fail
            go_roundw
            case rel => exact ⟨2, by omega, by omega, rfl, by first | trivial | rfl, fun j h1 h2 => by
              obtain h | rfl : j < 1 ∨ j = 1 := by omega
              · exact HA.out j h1 h
              · exact HOK.out⟩
            case measure => simp [intOf]
        | false =>
          have HF := Lib.hid (show goodO ⟨kd, a, b, c⟩ = false by rw [HG.out, hok]; simp)
          have hno : b < -1073741824 ∨ 1073741824 < b ∨ ((C : Int) ≤ 1 ∧ b ≠ 0) := by
            simp only [okN, inLim, Bool.and_eq_false_iff, Bool.or_eq_false_iff, decide_eq_false_iff_not] at hok
            omega
          clear hok
          by_cases h1 : -1073741824 ≤ b ∧ b ≤ 1073741824
          · have HI := Lib.hid (fun w => withinR_is (n := b) (lo := -1073741824) (hi := 1073741824) (b := true) w (by simp; omega))
            have hck : ci ≤ 1 := by have := HCI.out; omega
            have l3 : decide (ci ≤ 1) = true := by simpa using hck
            have l4 : (b == 0) = false := by simp; omega
            have l5 : (b != 0) = true := by simp; omega
            have l6 : b ≠ 0 := by omega
            clear hno
            go_wp2_with fail
            refine (HI.out _).mono ?_
            rintro e wz ⟨rfl, rfl⟩
            go_wp2_with fail
            go_ret
            exact ⟨ret_bool2 HF.out.symm, hB3⟩
          · have HI := Lib.hid (fun w => withinR_is (n := b) (lo := -1073741824) (hi := 1073741824) (b := false) w (by rw [← Bool.not_eq_true]; simp; omega))
            clear hno
            go_wp2_with fail
            refine (HI.out _).mono ?_
            rintro e wz ⟨rfl, rfl⟩
            go_wp2_with fail
            go_ret
            exact ⟨ret_bool2 HF.out.symm, hB3⟩
      · cases hok : okN C 2 c with
        | true =>
          obtain ⟨g1, g2, g3⟩ := okN_yes hok
          have HOK := Lib.hid hok
          clear hok
          have HI := Lib.hid (fun w => withinR_is (n := c) (lo := -1073741824) (hi := 1073741824) (b := true) w (by simp; omega))
          by_cases hc : ci ≤ 2
          · obtain rfl : c = 0 := by have := HCI.out; omega
            have l3 : decide (ci ≤ 2) = true := by simpa using hc
            go_wp2_with fail
            refine (HI.out _).mono ?_
            rintro e wz ⟨rfl, rfl⟩
            go_wp2_with fail
            go_roundw
            case rel => exact ⟨3, by omega, by omega, rfl, by first | trivial | rfl, fun j h1 h2 => by
              obtain h | rfl : j < 2 ∨ j = 2 := by omega
              · exact HA.out j h1 h
              · exact HOK.out⟩
            case measure => simp [intOf]
          · have l3 : decide (ci ≤ 2) = false := by simpa using hc
            go_wp2_with fail
            refine (HI.out _).mono ?_
            rintro e wz ⟨rfl, rfl⟩
            go_wp2_with fail
            go_roundw
            case rel => exact ⟨3, by omega, by omega, rfl, by first | trivial | rfl, fun j h1 h2 => by
              obtain h | rfl : j < 2 ∨ j = 2 := by omega
              · exact HA.out j h1 h
              · exact HOK.out⟩
            case measure => simp [intOf]
        | false =>
          have HF := Lib.hid (show goodO ⟨kd, a, b, c⟩ = false by rw [HG.out, hok]; simp)
          have hno : c < -1073741824 ∨ 1073741824 < c ∨ ((C : Int) ≤ 2 ∧ c ≠ 0) := by
            simp only [okN, inLim, Bool.and_eq_false_iff, Bool.or_eq_false_iff, decide_eq_false_iff_not] at hok
            omega
          clear hok
          by_cases h1 : -1073741824 ≤ c ∧ c ≤ 1073741824
          · have HI := Lib.hid (fun w => withinR_is (n := c) (lo := -1073741824) (hi := 1073741824) (b := true) w (by simp; omega))
            have hck : ci ≤ 2 := by have := HCI.out; omega
            have l3 : decide (ci ≤ 2) = true := by simpa using hck
            have l4 : (c == 0) = false := by simp; omega
            have l5 : (c != 0) = true := by simp; omega
            have l6 : c ≠ 0 := by omega
            clear hno
            go_wp2_with fail
            refine (HI.out _).mono ?_
            rintro e wz ⟨rfl, rfl⟩
            go_wp2_with fail
            go_ret
            exact ⟨ret_bool2 HF.out.symm, hB3⟩
          · have HI := Lib.hid (fun w => withinR_is (n := c) (lo := -1073741824) (hi := 1073741824) (b := false) w (by rw [← Bool.not_eq_true]; simp; omega))
            clear hno
            go_wp2_with fail
            refine (HI.out _).mono ?_
            rintro e wz ⟨rfl, rfl⟩
            go_wp2_with fail
            go_ret
            exact ⟨ret_bool2 HF.out.symm, hB3⟩
      · go_wp2_with fail
        go_ret
        refine ⟨ret_bool2 ?_, hB3⟩
        have h0 := HA.out 0 (by omega) (by omega)
        have h1 := HA.out 1 (by omega) (by omega)
        have h2 := HA.out 2 (by omega) (by omega)
        simp only [nth3] at h0 h1 h2
        rw [HG.out, show okN C 0 a = true from h0, show okN C 1 b = true from h1, show okN C 2 c = true from h2]; rfl
  · rw [goodO_kind hk]
    obtain ⟨kd, a, b, c⟩ := o
    dsimp only at *
    have hw1 := withinR_is (n := kd) (lo := 1) (hi := 14) (b := false) (h := by simp; omega)
    have HW1 := Lib.hid hw1
    clear HW hw1 hk
    simp only [ordA] at hB0 ⊢
    go_enter Tryd.func9, Tryd.ntmps9
    go_wp2_with fail
    refine (HW1.out _).mono ?_
    rintro e w1 ⟨rfl, rfl⟩
    go_wp2_with fail
    go_ret
    exact ⟨rfl, hB0⟩
end Go.Proofs.YtifmdkcpbajdcabDoor

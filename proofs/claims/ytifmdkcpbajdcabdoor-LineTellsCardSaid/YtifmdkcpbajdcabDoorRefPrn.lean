/- Walks: an order's line, in the document's own words. -/
import Derived.Test.YtifmdkcpbajdcabDoorRefOrd
set_option linter.unusedVariables false
set_option linter.unusedSimpArgs false
namespace Go.Proofs.YtifmdkcpbajdcabDoor
open Go.RowKit Go.Proofs Plain

theorem refW_cut {K : Nat} (h1 : 1 ≤ K) (hK : K < 15) (w : World) : (Instr.slice 9 (.string (bs (refW K))) none (some (.int .i64 (((bs (refW K)).size : Nat) - 2 : Int))) none).run Tryd.prog w = .ok (.string (bs (wordsL.getD K []))) w := by
  obtain rfl | rfl | rfl | rfl | rfl | rfl | rfl | rfl | rfl | rfl | rfl | rfl | rfl | rfl : K = 1 ∨ K = 2 ∨ K = 3 ∨ K = 4 ∨ K = 5 ∨ K = 6 ∨ K = 7 ∨ K = 8 ∨ K = 9 ∨ K = 10 ∨ K = 11 ∨ K = 12 ∨ K = 13 ∨ K = 14 := by omega
  all_goals kernel_rfl

def OrdS (g : Nat) (kd a b c : Int) (w' : World) : Prop := w'.cell? ⟨g, 0, none⟩ = some (.int .i64 kd) ∧ w'.cell? ⟨g, 1, none⟩ = some (.int .i64 a) ∧ w'.cell? ⟨g, 2, none⟩ = some (.int .i64 b) ∧ w'.cell? ⟨g, 3, none⟩ = some (.int .i64 c)
theorem OrdAt.s {w : World} {g : Nat} {kd a b c : Int} (h : OrdAt w g ⟨kd, a, b, c⟩) : OrdS g kd a b c w := h.facts.2.2.2.2

set_option maxRecDepth 100000 in
set_option maxHeartbeats 16000000 in
theorem refPrint_any (B : Nat) (o : Order) (w : World) (ho : OrdWf o) (hBs : B ≤ w.heap.size) (hT : SpaceTab B w) :
    Calls Tryd.prog 5 #[.agg (ordA o)] w (RetPrint o w) := by
  have HW := Lib.hid (fun w' (hb : Below w.heap.size w w') => wordsOf_any w' (Lib.TabBelow.here (Lib.TabBelow.on hT (hb.mono hBs))))
  have HIs := Lib.hid (fun w' (hb : Below w.heap.size w w') => isOrder_any B o w' ho (Nat.le_trans hBs hb.size) (Lib.TabBelow.on hT (hb.mono hBs)))
  clear hT
  have hB0 : Below w.heap.size w (w.alloc (.cells (ordA o) 23)) := (Below.refl _ _).alloc (Nat.le_refl _) _
  have hO0 := OrdAt.new w o
  cases hg : goodO o with
  | false =>
    have HG := Lib.hid hg
    clear hg HW
    obtain ⟨kd, a, b, c⟩ := o
    simp only [ordA] at hB0 HIs ⊢
    go_enter Tryd.func5, Tryd.ntmps5
    go_wp2_with fail
    refine (HIs.out _ hB0).mono ?_
    rintro e w1 ⟨rfl, hb1⟩
    rw [HG.out]
    go_wp2_with fail
    go_ret2
    exact ⟨ByteArray.empty, by rw [HG.out]; rfl, by rw [HG.out]; rfl, below_line hB0 hb1⟩
  | true =>
    have HG := Lib.hid hg
    obtain ⟨hk1, hk2, la, lb, lc, _⟩ := (goodO_iff o).1 hg
    clear hg
    obtain ⟨kd, a, b, c⟩ := o
    dsimp only at hk1 hk2 la lb lc
    have HLA := Lib.hid (And.intro la (And.intro lb lc))
    clear la lb lc
    obtain ⟨K, hKK⟩ : ∃ K : Nat, kd = (K : Int) := ⟨kd.toNat, by omega⟩
    have hK : K < 15 := by omega
    have hK1 : 1 ≤ K := by omega
    have hC3 := counts_le K hK
    have hget := refWB_get hK1 hK
    obtain ⟨hL1, hL2⟩ := refW_len hK
    have hix := refW_idx hK1 hK
    have hsl := refW_cut hK1 hK
    obtain ⟨C, hC⟩ : ∃ C, countsL.getD K 0 = C := ⟨_, rfl⟩
    obtain ⟨X, hX⟩ : ∃ X, bs (refW K) = X := ⟨_, rfl⟩
    obtain ⟨Y, hY⟩ : ∃ Y, bs (wordsL.getD K []) = Y := ⟨_, rfl⟩
    obtain ⟨L, hL⟩ : ∃ L, X.size = L := ⟨_, rfl⟩
    obtain ⟨J, hJ⟩ : ∃ J, K - 1 = J := ⟨_, rfl⟩
    rw [hX] at hget hL1 hL2 hix hsl
    rw [hY] at hsl
    rw [hL] at hL1 hL2 hix hsl
    rw [hC] at hC3 hix
    rw [hJ] at hget
    have hsub : kd - 1 = (J : Int) := by omega
    have j0 : (0 : Int) ≤ J := by omega
    have j1 : (J : Int) < 14 := by omega
    have jl : J < 14 := by omega
    have hwr : IntKind.i64.wrap (J : Int) = (J : Int) := IntWalk.i64_in _ (by omega)
    have HC := Lib.hid hC
    have HY := Lib.hid hY
    have HK := Lib.hid (And.intro hK hKK)
    clear hC hX hY hJ hKK hK hK1 hk1 hk2
    simp only [ordA] at hB0 HIs ⊢
    go_enter Tryd.func5, Tryd.ntmps5
    go_wp2_with fail
    refine (HIs.out _ hB0).mono ?_
    rintro e w1 ⟨rfl, hb1⟩
    rw [HG.out]
    have hD := hO0.below hb1 hO0.lt
    have hB := below_line hB0 hb1
    clear hO0 hB0 HIs hb1
    go_wp2_with fail
    go_cut [4] (fun x4 wq => x4 = .string X ∧ OrdAt wq w.heap.size ⟨kd, a, b, c⟩ ∧ Below w.heap.size w wq)
    case first => as_aux_lemma =>
      have hBd : Below w.heap.size w w1.drew := ⟨hB.os, hB.tape, hB.output, hB.size, hB.block⟩
      have hDd : OrdAt w1.drew w.heap.size ⟨kd, a, b, c⟩ := hD
      refine wp_region_plans (S := fun w' => w'.cell? ⟨w.heap.size, 0, none⟩ = some (.int .i64 kd)) (.take 1 (.take 2 (.take 3 (.one 0 (.take 4 (.one 5 (.take 6 .fin))))))) (by kernel_rfl) (by kernel_rfl) hDd.cell0 ?_
      refine plan_take (v := ?_) rfl (by rfl) (fun w' hw' => ?_) ?_
      rotate_left
      · go_simp; try with_reducible rfl
      try simp only [Act.put, List.getElem_toArray, List.getElem_cons_zero, List.getElem_cons_succ, List.setIfInBounds_toArray, List.set_cons_zero, List.set_cons_succ]
      refine plan_take (v := ?_) rfl (by rfl) (fun w' hw' => ?_) ?_
      rotate_left
      · go_simp; try with_reducible rfl
      try simp only [Act.put, List.getElem_toArray, List.getElem_cons_zero, List.getElem_cons_succ, List.setIfInBounds_toArray, List.set_cons_zero, List.set_cons_succ]
      refine plan_take (v := ?_) rfl (by rfl) (fun w' hw' => ?_) ?_
      rotate_left
      · go_simp; try with_reducible rfl
      try simp only [Act.put, List.getElem_toArray, List.getElem_cons_zero, List.getElem_cons_succ, List.setIfInBounds_toArray, List.set_cons_zero, List.set_cons_succ]
      refine plan_one rfl (by rfl) fun K hK => ?_
      go_simp
      go_at_call 12
      refine (HW.out _ hBd).mono ?_
      rintro e w5 ⟨A5, c5, rfl, h5, hb5⟩
      have hD5 := hDd.below hb5 hDd.lt
      have hB5 := below_line hBd hb5
      obtain ⟨b5, off5, hA5, hlt5, hc5⟩ := str_at h5 (by rw [refWB_len]; omega)
      subst hA5
      have hcJ := hc5 J (by rw [refWB_len]; omega)
      rw [hget] at hcJ
      rw [refWB_len]
      refine hK.out _ _ hD5.cell0 ?_
      clear hK K hc5 h5
      try simp only [Act.put, List.getElem_toArray, List.getElem_cons_zero, List.getElem_cons_succ, List.setIfInBounds_toArray, List.set_cons_zero, List.set_cons_succ]
      refine plan_take (v := ?_) rfl (by rfl) (fun w' hw' => ?_) ?_
      rotate_left
      · go_simp; try with_reducible rfl
      try simp only [Act.put, List.getElem_toArray, List.getElem_cons_zero, List.getElem_cons_succ, List.setIfInBounds_toArray, List.set_cons_zero, List.set_cons_succ]
      refine plan_one rfl (by rfl) fun K hK => ?_
      go_simp
      refine hK.out _ _ hD5.cell0 ?_
      clear hK K
      try simp only [Act.put, List.getElem_toArray, List.getElem_cons_zero, List.getElem_cons_succ, List.setIfInBounds_toArray, List.set_cons_zero, List.set_cons_succ]
      refine plan_take (v := ?_) rfl (by rfl) (fun w' hw' => ?_) ?_
      rotate_left
      · go_simp; try with_reducible rfl
      try simp only [Act.put, List.getElem_toArray, List.getElem_cons_zero, List.getElem_cons_succ, List.setIfInBounds_toArray, List.set_cons_zero, List.set_cons_succ]
      refine plan_done (NoPanic.normal ?_)
      all_goals
        go_wp2_with fail
        go_meet
        exact ⟨rfl, hD5, hB5⟩
    clear hD hB HW hget hsub j0 j1 jl hwr
    obtain ⟨rfl, hD, hB⟩ := hcut
    have hwL : IntKind.i64.wrap ((L : Int) - 1) = (L : Int) - 1 := IntWalk.i64_in _ (by omega)
    have hwL2 : IntKind.i64.wrap ((L : Int) - 2) = (L : Int) - 2 := IntWalk.i64_in _ (by omega)
    have hwC : IntKind.u8.wrap (C : Int) = (C : Int) := IntWalk.u8_in _ (by omega)
    have hsC : 48 + (C : Int) - 48 = (C : Int) := by omega
    go_wp2_with fail
    go_cut [35, 36, 37] (fun x35 x36 x37 wq => ∃ g, x35 = .slice (some ⟨g, 0, none⟩) C 3 ∧ x36 = .int .i64 (C : Int) ∧ x37 = .int .i64 0 ∧ g < wq.heap.size ∧ (∀ k, k < 3 → wq.cell? ⟨g, k, none⟩ = some (.int .i64 ([a, b, c].getD k 0))) ∧ Below w.heap.size w wq)
    case first => as_aux_lemma =>
      have hBd : Below w.heap.size w wc.drew := ⟨hB.os, hB.tape, hB.output, hB.size, hB.block⟩
      have hDd : OrdAt wc.drew w.heap.size ⟨kd, a, b, c⟩ := hD
      have c0 : (0 : Int) ≤ C := by omega
      have c3 : (C : Int) ≤ 3 := by omega
      refine wp_region_plans (S := OrdS w.heap.size kd a b c) (.take 0 (.take 1 (.take 2 (.take 3 (.take 4 (.take 5 (.take 7 (.take 8 (.take 9 (.take 10 (.take 11 (.take 12 (.take 15 (.one 6 (.take 13 (.take 14 .fin)))))))))))))))) (by kernel_rfl) (by kernel_rfl) hDd.s ?_
      refine plan_take (v := ?_) rfl (by rfl) (fun w' hw' => ?_) ?_
      rotate_left
      · unfold OrdS at hw'; go_simp; try with_reducible rfl
      try simp only [Act.put, List.getElem_toArray, List.getElem_cons_zero, List.getElem_cons_succ, List.setIfInBounds_toArray, List.set_cons_zero, List.set_cons_succ]
      refine plan_take (v := ?_) rfl (by rfl) (fun w' hw' => ?_) ?_
      rotate_left
      · unfold OrdS at hw'; go_simp; try with_reducible rfl
      try simp only [Act.put, List.getElem_toArray, List.getElem_cons_zero, List.getElem_cons_succ, List.setIfInBounds_toArray, List.set_cons_zero, List.set_cons_succ]
      refine plan_take (v := ?_) rfl (by rfl) (fun w' hw' => ?_) ?_
      rotate_left
      · unfold OrdS at hw'; go_simp; try with_reducible rfl
      try simp only [Act.put, List.getElem_toArray, List.getElem_cons_zero, List.getElem_cons_succ, List.setIfInBounds_toArray, List.set_cons_zero, List.set_cons_succ]
      refine plan_take (v := ?_) rfl (by rfl) (fun w' hw' => ?_) ?_
      rotate_left
      · unfold OrdS at hw'; go_simp; try with_reducible rfl
      try simp only [Act.put, List.getElem_toArray, List.getElem_cons_zero, List.getElem_cons_succ, List.setIfInBounds_toArray, List.set_cons_zero, List.set_cons_succ]
      refine plan_take (v := ?_) rfl (by rfl) (fun w' hw' => ?_) ?_
      rotate_left
      · unfold OrdS at hw'; go_simp; try with_reducible rfl
      try simp only [Act.put, List.getElem_toArray, List.getElem_cons_zero, List.getElem_cons_succ, List.setIfInBounds_toArray, List.set_cons_zero, List.set_cons_succ]
      refine plan_take (v := ?_) rfl (by rfl) (fun w' hw' => ?_) ?_
      rotate_left
      · unfold OrdS at hw'; go_simp; try with_reducible rfl
      try simp only [Act.put, List.getElem_toArray, List.getElem_cons_zero, List.getElem_cons_succ, List.setIfInBounds_toArray, List.set_cons_zero, List.set_cons_succ]
      refine plan_take (v := ?_) rfl (by rfl) (fun w' hw' => ?_) ?_
      rotate_left
      · unfold OrdS at hw'; go_simp; try with_reducible rfl
      try simp only [Act.put, List.getElem_toArray, List.getElem_cons_zero, List.getElem_cons_succ, List.setIfInBounds_toArray, List.set_cons_zero, List.set_cons_succ]
      refine plan_take (v := ?_) rfl (by rfl) (fun w' hw' => ?_) ?_
      rotate_left
      · unfold OrdS at hw'; go_simp; try with_reducible rfl
      try simp only [Act.put, List.getElem_toArray, List.getElem_cons_zero, List.getElem_cons_succ, List.setIfInBounds_toArray, List.set_cons_zero, List.set_cons_succ]
      refine plan_take (v := ?_) rfl (by rfl) (fun w' hw' => ?_) ?_
      rotate_left
      · unfold OrdS at hw'; go_simp; try with_reducible rfl
      try simp only [Act.put, List.getElem_toArray, List.getElem_cons_zero, List.getElem_cons_succ, List.setIfInBounds_toArray, List.set_cons_zero, List.set_cons_succ]
      refine plan_take (v := ?_) rfl (by rfl) (fun w' hw' => ?_) ?_
      rotate_left
      · unfold OrdS at hw'; go_simp; try with_reducible rfl
      try simp only [Act.put, List.getElem_toArray, List.getElem_cons_zero, List.getElem_cons_succ, List.setIfInBounds_toArray, List.set_cons_zero, List.set_cons_succ]
      refine plan_take (v := ?_) rfl (by rfl) (fun w' hw' => ?_) ?_
      rotate_left
      · unfold OrdS at hw'; go_simp; try with_reducible rfl
      try simp only [Act.put, List.getElem_toArray, List.getElem_cons_zero, List.getElem_cons_succ, List.setIfInBounds_toArray, List.set_cons_zero, List.set_cons_succ]
      refine plan_take (v := ?_) rfl (by rfl) (fun w' hw' => ?_) ?_
      rotate_left
      · unfold OrdS at hw'; go_simp; try with_reducible rfl
      try simp only [Act.put, List.getElem_toArray, List.getElem_cons_zero, List.getElem_cons_succ, List.setIfInBounds_toArray, List.set_cons_zero, List.set_cons_succ]
      refine plan_take (v := ?_) rfl (by rfl) (fun w' hw' => ?_) ?_
      rotate_left
      · unfold OrdS at hw'; go_simp; try with_reducible rfl
      try simp only [Act.put, List.getElem_toArray, List.getElem_cons_zero, List.getElem_cons_succ, List.setIfInBounds_toArray, List.set_cons_zero, List.set_cons_succ]
      refine plan_one rfl (by rfl) fun K hK => ?_
      go_simp
      refine hK.out _ _ (hDd.alloc _).s ?_
      clear hK K
      try simp only [Act.put, List.getElem_toArray, List.getElem_cons_zero, List.getElem_cons_succ, List.setIfInBounds_toArray, List.set_cons_zero, List.set_cons_succ]
      refine plan_take (v := ?_) rfl (by rfl) (fun w' hw' => ?_) ?_
      rotate_left
      · go_simp; try with_reducible rfl
      try simp only [Act.put, List.getElem_toArray, List.getElem_cons_zero, List.getElem_cons_succ, List.setIfInBounds_toArray, List.set_cons_zero, List.set_cons_succ]
      refine plan_take (v := ?_) rfl (by rfl) (fun w' hw' => ?_) ?_
      rotate_left
      · go_simp; try with_reducible rfl
      try simp only [Act.put, List.getElem_toArray, List.getElem_cons_zero, List.getElem_cons_succ, List.setIfInBounds_toArray, List.set_cons_zero, List.set_cons_succ]
      refine plan_done (NoPanic.normal ?_)
      have hB6 := hBd.alloc hBd.size (.cells #[.int .i64 a, .int .i64 b, .int .i64 c] 3)
      have h6 : ∀ k, k < 3 → (wc.drew.alloc (.cells #[.int .i64 a, .int .i64 b, .int .i64 c] 3)).cell? ⟨wc.heap.size, k, none⟩ = some (.int .i64 ([a, b, c].getD k 0)) := by
        intro k hk
        rw [cell_of_row _ wc.heap.size k _ 3 (0, 0) (heap_alloc_new wc.drew _)]
        match k, hk with
        | 0, _ => rfl
        | 1, _ => rfl
        | 2, _ => rfl
      go_wp2_with fail
      go_meet
      exact ⟨wc.heap.size, rfl, rfl, rfl, by simp, h6, hB6⟩
    clear hD hB hix hsl hL hL1 hL2 hwL hwL2 hwC hsC
    obtain ⟨g, rfl, rfl, rfl, hg, hcs, hB⟩ := hcut
    go_wp2_with fail
    go_loopw [5, 37] (fun s i wr => ∃ (k : Nat) (z : ByteArray), k ≤ C ∧ i = .int .i64 k ∧ s = .string z ∧ z = bs (lineTo K C a b c k) ∧ Below wc.heap.size wc wr) (fun _ i _ => C - (intOf i).toNat)
    case atStart => exact ⟨0, Y, by omega, rfl, rfl, by rw [← HY.out]; simp [lineTo, tellT], Below.refl _ _⟩
    case round =>
      obtain ⟨k, z, hk3, rfl, rfl, hz, hBz⟩ := hrel
      have HZ := Lib.hid hz
      have hz42 : z.size ≤ 42 := by rw [hz]; exact line_size HK.out.1 HLA.out.1 HLA.out.2.1 HLA.out.2.2 k
      clear hz
      by_cases hlt : k < C
      · have hck := ((show wr.cell? ⟨g, k, none⟩ = wc.cell? ⟨g, k, none⟩ from World.cell?_of_block (w := wc) (hBz.block g hg)).trans (hcs k (by omega)))
        have HS := Lib.hid (line_step (K := K) (a := a) (b := b) (c := c) hC3 k hlt (by omega))
        have hn : inLim ([a, b, c].getD k 0) = true := by
          obtain rfl | rfl | rfl : k = 0 ∨ k = 1 ∨ k = 2 := by omega
          · exact HLA.out.1
          · exact HLA.out.2.1
          · exact HLA.out.2.2
        obtain ⟨n, hnn⟩ : ∃ n, [a, b, c].getD k 0 = n := ⟨_, rfl⟩
        rw [hnn] at hck HS hn
        have zn := itoa_size hn
        simp only [inLim, Bool.and_eq_true, decide_eq_true_eq] at hn
        have HD := Lib.hid (fun w => decimal_any n (by omega) (by omega) w)
        clear hnn hn hcs
        go_wp2_with fail
        refine (HD.out _).mono ?_
        rintro e w2 ⟨rfl, hb2⟩
        go_wp2_with fail
        go_roundw
        case rel => exact ⟨k + 1, _, by omega, by go_num, rfl, by rw [HS.out, HZ.out]; exact bs_join _ _, hBz.trans (hb2.mono hBz.size)⟩
        case measure => simp [intOf] <;> omega
      · obtain rfl : k = C := by omega
        go_wp2_with fail
        go_ret2
        refine ⟨z, by rw [HG.out]; rfl, ?_, below_line hB hBz⟩
        rw [HG.out, HZ.out, if_pos rfl, HK.out.2]
        unfold lineTo printL nums
        rw [List.take_of_length_le (by rw [take3 a b c hC3]; exact Nat.le_refl _)]
        rw [Int.toNat_natCast, HC.out]
end Go.Proofs.YtifmdkcpbajdcabDoor

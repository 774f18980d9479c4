/- Walks: profiles are what the document says: New, Good, At, Fit. -/
import Derived.Test.YtifmdkcpbajdcaaRef4
import Derived.Test.YtifmdkcpbajdcaaSpanL2
namespace Go.Proofs.Ytifmdkcpbajdcaa
open Go.RowKit Go.Proofs Plain

theorem first_late {f : Int → Int} {fr long n v : Int} (h : First f fr long n v) (h0 : 300 ≤ fr) (h1 : 1 ≤ long) : v = -1 := by
  rcases h with ⟨h, _⟩ | ⟨a, b, _⟩
  · exact h
  · have := b.1; omega

set_option maxRecDepth 100000 in
set_option maxHeartbeats 20000000 in
theorem spanTells_no (l : Prof) (A : Option Addr) (c : Nat) (t fr long n : Int) (w : World) (h : Sl w 2 A l.length (stepCells l)) (hm : l.length ≤ maxLen) (hreach : l.length * 16 ≤ 140737488351232) (hg : goodB l = false) :
    Calls Try.prog 4 #[.slice A l.length c, .int .i64 t, .int .i64 fr, .int .i64 long, .int .i64 n] w fun e w' => e = .returned (.bool true) ∧ Below w.heap.size w w' := by
  obtain ⟨i0, hi0, hz0, hzs, hzb⟩ := info_parts step_info
  have HG := Lib.hid hg
  have HF := Lib.hid (show fitL l fr long n = -1 from fitL_bad fun h => by have := (goodB_iff l).2 h.1; rw [hg] at this; cases this)
  clear hg
  go_enter Try.func4, Try.ntmps4
  go_wp2_with (at_builtin; refine wpList_append_copy rfl _ _ 23 rfl w.heap.size 32 i0 _ 2 16 Try.underlying23 hi0 hz0 hzs hzb rfl (by decide) rfl A l.length c (stepCells l) rfl h (one_cells l) hm (by omega) (Nat.le_refl _) ?_; intro vC w1 hoC hB1)
  obtain ⟨AC, cC, rfl⟩ := own_form hoC
  have hl1 := h.below hB1
  have hlC1 := Sl.of_own hoC
  go_wp2_with fail
  refine (freeOf_any l A c w1 hl1 hm).mono ?_
  rintro e w2 ⟨fs, hfl, hfs, rfl, hb2⟩
  rw [HG.out]
  have HFS := Lib.hid hfs
  clear hfs
  have hl2 := hl1.below hb2
  have hlC2 := hlC1.below hb2
  have hB2 := below_go hB1 hb2
  go_wp2_with (first
    | (refine wpList_alloc_arr rfl rfl ?_; intro wB gB b1 b2 hA0 hbB)
    | (refine wpList_store_arr rfl rfl (by first | rfl | simp [Act.eval, Act.put]) (by first | rfl | simp [Act.eval, Act.put]) hA0 hfl ?_; intro w3 hA hr3))
  have hb3 := hbB.trans (hr3.below b1)
  have hl3 := hl2.below hb3
  have hlC3 := hlC2.below hb3
  have hB3 := below_go hB2 hb3
  refine (good_any l AC cC w3 hlC3 hm).mono ?_
  rintro e w4 ⟨rfl, hb4⟩
  rw [HG.out]
  have hl4 := hl3.below hb4
  have hlC4 := hlC3.below hb4
  have hB4 := below_go hB3 hb4
  have hA4 := hA.below hb4 hA.lt
  go_wp2_with fail
  refine (new_any _).mono ?_
  rintro e w5 ⟨An, cn, rfl, hN, hb5⟩
  have hl5 := hl4.below hb5
  have hlC5 := hlC4.below hb5
  have hB5 := below_go hB4 hb5
  have hA5 := hA4.below hb5 hA4.lt
  go_wp2_with fail
  refine (sameRef_any newL newL An (some ⟨w5.heap.size, 0, none⟩) cn 1 (w5.alloc (.cells #[.int .i64 0, .int .i64 16] 32)) (hN.alloc _) (Sl.new (n := 1) w5 #[.int .i64 0, .int .i64 16] 32 rfl) (by unfold maxLen; decide) (by unfold maxLen; decide)).mono ?_
  rintro e w6 ⟨rfl, hb6'⟩
  rw [show decide (newL = newL) = true by simp]
  have hb6 : Below w5.heap.size w5 w6 := ((Below.refl _ _).alloc (Nat.le_refl _) _).trans (hb6'.mono (by simp))
  have hl6 := hl5.below hb6
  have hlC6 := hlC5.below hb6
  have hB6 := below_go hB5 hb6
  have hA6 := hA5.below hb6 hA5.lt
  go_wp2_with fail
  refine (spansLaw_any _).mono ?_
  rintro e w7 ⟨rfl, hb7⟩
  have hl7 := hl6.below hb7
  have hlC7 := hlC6.below hb7
  have hB7 := below_go hB6 hb7
  have hA7 := hA6.below hb7 hA6.lt
  go_wp2_with fail
  refine (fit_any l AC cC fr long n w7 hlC7 hm).mono ?_
  rintro e w8 ⟨rfl, hb8⟩
  have hl8 := hl7.below hb8
  have hlC8 := hlC7.below hb8
  have hB8 := below_go hB7 hb8
  have hA8 := hA7.below hb8 hA7.lt
  clear hl1 hlC1 hb2 hl2 hlC2 hB2 hbB hr3 hA0 hb3 hl3 hlC3 hB3 hb4 hl4 hlC4 hB4 hb5 hl5 hlC5 hB5 hN hb6' hb6 hl6 hlC6 hB6 hb7 hl7 hlC7 hB7 hb8 hA hA4 hA5 hA6 hA7 h hoC hB1
  rw [HF.out]
  go_wp2_with fail
  go_ret
  exact ⟨rfl, hB8⟩

set_option maxRecDepth 100000 in
set_option maxHeartbeats 20000000 in
theorem spanTells_yes (l : Prof) (A : Option Addr) (c : Nat) (t fr long n : Int) (w : World) (h : Sl w 2 A l.length (stepCells l)) (hm : l.length ≤ maxLen) (hreach : l.length * 16 ≤ 140737488351232) (hg : goodB l = true) :
    Calls Try.prog 4 #[.slice A l.length c, .int .i64 t, .int .i64 fr, .int .i64 long, .int .i64 n] w fun e w' => e = .returned (.bool true) ∧ Below w.heap.size w w' := by
  obtain ⟨i0, hi0, hz0, hzs, hzb⟩ := info_parts step_info
  have HG := Lib.hid hg
  have hG := (goodB_iff l).1 hg
  have HBAD := Lib.hid (@fitL_bad l fr long n)
  have HOK := Lib.hid (@fitL_first l fr long n hG)
  have HAT := Lib.hid (atL_good hG t)
  clear hg hG
  go_enter Try.func4, Try.ntmps4
  go_wp2_with (at_builtin; refine wpList_append_copy rfl _ _ 23 rfl w.heap.size 32 i0 _ 2 16 Try.underlying23 hi0 hz0 hzs hzb rfl (by decide) rfl A l.length c (stepCells l) rfl h (one_cells l) hm (by omega) (Nat.le_refl _) ?_; intro vC w1 hoC hB1)
  obtain ⟨AC, cC, rfl⟩ := own_form hoC
  have hl1 := h.below hB1
  have hlC1 := Sl.of_own hoC
  go_wp2_with fail
  refine (freeOf_any l A c w1 hl1 hm).mono ?_
  rintro e w2 ⟨fs, hfl, hfs, rfl, hb2⟩
  rw [HG.out]
  have HFS := Lib.hid hfs
  clear hfs
  have hl2 := hl1.below hb2
  have hlC2 := hlC1.below hb2
  have hB2 := below_go hB1 hb2
  go_wp2_with (first
    | (refine wpList_alloc_arr rfl rfl ?_; intro wB gB b1 b2 hA0 hbB)
    | (refine wpList_store_arr rfl rfl (by first | rfl | simp [Act.eval, Act.put]) (by first | rfl | simp [Act.eval, Act.put]) hA0 hfl ?_; intro w3 hA hr3))
  have hb3 := hbB.trans (hr3.below b1)
  have hl3 := hl2.below hb3
  have hlC3 := hlC2.below hb3
  have hB3 := below_go hB2 hb3
  refine (good_any l AC cC w3 hlC3 hm).mono ?_
  rintro e w4 ⟨rfl, hb4⟩
  rw [HG.out]
  have hl4 := hl3.below hb4
  have hlC4 := hlC3.below hb4
  have hB4 := below_go hB3 hb4
  have hA4 := hA.below hb4 hA.lt
  go_wp2_with fail
  refine (new_any _).mono ?_
  rintro e w5 ⟨An, cn, rfl, hN, hb5⟩
  have hl5 := hl4.below hb5
  have hlC5 := hlC4.below hb5
  have hB5 := below_go hB4 hb5
  have hA5 := hA4.below hb5 hA4.lt
  go_wp2_with fail
  refine (sameRef_any newL newL An (some ⟨w5.heap.size, 0, none⟩) cn 1 (w5.alloc (.cells #[.int .i64 0, .int .i64 16] 32)) (hN.alloc _) (Sl.new (n := 1) w5 #[.int .i64 0, .int .i64 16] 32 rfl) (by unfold maxLen; decide) (by unfold maxLen; decide)).mono ?_
  rintro e w6 ⟨rfl, hb6'⟩
  rw [show decide (newL = newL) = true by simp]
  have hb6 : Below w5.heap.size w5 w6 := ((Below.refl _ _).alloc (Nat.le_refl _) _).trans (hb6'.mono (by simp))
  have hl6 := hl5.below hb6
  have hlC6 := hlC5.below hb6
  have hB6 := below_go hB5 hb6
  have hA6 := hA5.below hb6 hA5.lt
  go_wp2_with fail
  refine (spansLaw_any _).mono ?_
  rintro e w7 ⟨rfl, hb7⟩
  have hl7 := hl6.below hb7
  have hlC7 := hlC6.below hb7
  have hB7 := below_go hB6 hb7
  have hA7 := hA6.below hb7 hA6.lt
  go_wp2_with fail
  refine (fit_any l AC cC fr long n w7 hlC7 hm).mono ?_
  rintro e w8 ⟨rfl, hb8⟩
  have hl8 := hl7.below hb8
  have hlC8 := hlC7.below hb8
  have hB8 := below_go hB7 hb8
  have hA8 := hA7.below hb8 hA7.lt
  clear hl1 hlC1 hb2 hl2 hlC2 hB2 hbB hr3 hA0 hb3 hl3 hlC3 hB3 hb4 hl4 hlC4 hB4 hb5 hl5 hlC5 hB5 hN hb6' hb6 hl6 hlC6 hB6 hb7 hl7 hlC7 hB7 hb8 hA hA4 hA5 hA6 hA7 h hoC hB1
  by_cases b1 : fr < 0
  · have HF := Lib.hid (HBAD.out (by omega))
    clear HBAD HOK HAT HFS
    rw [HF.out]
    go_wp2_with fail
    go_ret
    exact ⟨rfl, hB8⟩
  · skip
    by_cases b2 : long < 1
    · have HF := Lib.hid (HBAD.out (by omega))
      clear HBAD HOK HAT HFS
      rw [HF.out]
      go_wp2_with fail
      go_ret
      exact ⟨rfl, hB8⟩
    · skip
      by_cases b3 : 300 < long
      · have HF := Lib.hid (HBAD.out (by omega))
        clear HBAD HOK HAT HFS
        rw [HF.out]
        go_wp2_with fail
        go_ret
        exact ⟨rfl, hB8⟩
      · skip
        by_cases b4 : n < 0
        · have HF := Lib.hid (HBAD.out (by omega))
          clear HBAD HOK HAT HFS
          rw [HF.out]
          go_wp2_with fail
          go_ret
          exact ⟨rfl, hB8⟩
        · skip
          have HV := Lib.hid (HOK.out (by omega) (by omega) (by omega) (by omega))
          have HFG := Lib.hid (show ∀ t, 0 ≤ t → t < 300 → tabF fs t = val l t from fun t t0 t1 => by have := HFS.out HG.out t.toNat (by omega); rw [tabF, this]; congr 1; omega)
          clear HBAD HOK
          obtain ⟨V, hV⟩ : ∃ V, V = fitL l fr long n := ⟨_, rfl⟩
          rw [← hV] at HV ⊢
          clear hV
          by_cases t0 : 0 ≤ t
          · by_cases t1 : t < 300
            · obtain ⟨k, rfl⟩ : ∃ k : Nat, t = k := ⟨t.toNat, by omega⟩
              have HW := Lib.hid (show atL l (k : Int) = fs.getD k 0 by rw [HAT.out, if_pos ⟨t0, t1⟩, HFS.out HG.out k (by omega)])
              have c1 := hA8.cell k (by omega)
              clear HAT HFS
              generalize fs.getD k 0 = x at c1 HW
              by_cases b5 : 300 < fr
              · go_wp2_with fail
                refine (at_any l AC cC _ w8 hlC8 hm).mono ?_
                rintro e w9 ⟨rfl, hb9⟩
                rw [HW.out]
                have hA9 := hA8.below hb9 hA8.lt
                go_wp2_with fail
                refine oper_load_arr rfl (by first | rfl | simp [Act.eval, Act.put]) hA9 ?_
                go_wp2_with fail
                refine (first_any fs 300 long n w9 hfl (by omega) (by omega) (by omega) (by omega)).mono ?_
                rintro e w10 ⟨v, hv, rfl, hb10⟩
                have hvV : v = V := by rw [first_late hv (Int.le_refl _) (by omega), first_late HV.out (by omega) (by omega)]
                rw [hvV]
                clear hvV hv
                go_wp2_with fail
                refine (sameRef_any l l AC A cC c w10 ((hlC8.below hb9).below hb10) ((hl8.below hb9).below hb10) hm hm).mono ?_
                rintro e w11 ⟨rfl, hb11⟩
                rw [show decide (l = l) = true by simp]
                go_wp2_with fail
                go_ret
                exact ⟨rfl, below_go (below_go (below_go hB8 hb9) hb10) hb11⟩
              · go_wp2_with fail
                refine (at_any l AC cC _ w8 hlC8 hm).mono ?_
                rintro e w9 ⟨rfl, hb9⟩
                rw [HW.out]
                have hA9 := hA8.below hb9 hA8.lt
                go_wp2_with fail
                refine oper_load_arr rfl (by first | rfl | simp [Act.eval, Act.put]) hA9 ?_
                go_wp2_with fail
                refine (first_any fs fr long n w9 hfl (by omega) (by omega) (by omega) (by omega)).mono ?_
                rintro e w10 ⟨v, hv, rfl, hb10⟩
                have hvV : v = V := First.unique (by omega) HFG.out hv HV.out
                rw [hvV]
                clear hvV hv
                go_wp2_with fail
                refine (sameRef_any l l AC A cC c w10 ((hlC8.below hb9).below hb10) ((hl8.below hb9).below hb10) hm hm).mono ?_
                rintro e w11 ⟨rfl, hb11⟩
                rw [show decide (l = l) = true by simp]
                go_wp2_with fail
                go_ret
                exact ⟨rfl, below_go (below_go (below_go hB8 hb9) hb10) hb11⟩
            · have HW := Lib.hid (show atL l t = 0 by rw [HAT.out, if_neg (by omega)])
              clear HAT HFS
              by_cases b5 : 300 < fr
              · go_wp2_with fail
                refine (at_any l AC cC _ w8 hlC8 hm).mono ?_
                rintro e w9 ⟨rfl, hb9⟩
                rw [HW.out]
                have hA9 := hA8.below hb9 hA8.lt
                go_wp2_with fail
                refine oper_load_arr rfl (by first | rfl | simp [Act.eval, Act.put]) hA9 ?_
                go_wp2_with fail
                refine (first_any fs 300 long n w9 hfl (by omega) (by omega) (by omega) (by omega)).mono ?_
                rintro e w10 ⟨v, hv, rfl, hb10⟩
                have hvV : v = V := by rw [first_late hv (Int.le_refl _) (by omega), first_late HV.out (by omega) (by omega)]
                rw [hvV]
                clear hvV hv
                go_wp2_with fail
                refine (sameRef_any l l AC A cC c w10 ((hlC8.below hb9).below hb10) ((hl8.below hb9).below hb10) hm hm).mono ?_
                rintro e w11 ⟨rfl, hb11⟩
                rw [show decide (l = l) = true by simp]
                go_wp2_with fail
                go_ret
                exact ⟨rfl, below_go (below_go (below_go hB8 hb9) hb10) hb11⟩
              · go_wp2_with fail
                refine (at_any l AC cC _ w8 hlC8 hm).mono ?_
                rintro e w9 ⟨rfl, hb9⟩
                rw [HW.out]
                have hA9 := hA8.below hb9 hA8.lt
                go_wp2_with fail
                refine oper_load_arr rfl (by first | rfl | simp [Act.eval, Act.put]) hA9 ?_
                go_wp2_with fail
                refine (first_any fs fr long n w9 hfl (by omega) (by omega) (by omega) (by omega)).mono ?_
                rintro e w10 ⟨v, hv, rfl, hb10⟩
                have hvV : v = V := First.unique (by omega) HFG.out hv HV.out
                rw [hvV]
                clear hvV hv
                go_wp2_with fail
                refine (sameRef_any l l AC A cC c w10 ((hlC8.below hb9).below hb10) ((hl8.below hb9).below hb10) hm hm).mono ?_
                rintro e w11 ⟨rfl, hb11⟩
                rw [show decide (l = l) = true by simp]
                go_wp2_with fail
                go_ret
                exact ⟨rfl, below_go (below_go (below_go hB8 hb9) hb10) hb11⟩
          · have HW := Lib.hid (show atL l t = 0 by rw [HAT.out, if_neg (by omega)])
            clear HAT HFS
            by_cases b5 : 300 < fr
            · go_wp2_with fail
              refine (at_any l AC cC _ w8 hlC8 hm).mono ?_
              rintro e w9 ⟨rfl, hb9⟩
              rw [HW.out]
              have hA9 := hA8.below hb9 hA8.lt
              go_wp2_with fail
              refine oper_load_arr rfl (by first | rfl | simp [Act.eval, Act.put]) hA9 ?_
              go_wp2_with fail
              refine (first_any fs 300 long n w9 hfl (by omega) (by omega) (by omega) (by omega)).mono ?_
              rintro e w10 ⟨v, hv, rfl, hb10⟩
              have hvV : v = V := by rw [first_late hv (Int.le_refl _) (by omega), first_late HV.out (by omega) (by omega)]
              rw [hvV]
              clear hvV hv
              go_wp2_with fail
              refine (sameRef_any l l AC A cC c w10 ((hlC8.below hb9).below hb10) ((hl8.below hb9).below hb10) hm hm).mono ?_
              rintro e w11 ⟨rfl, hb11⟩
              rw [show decide (l = l) = true by simp]
              go_wp2_with fail
              go_ret
              exact ⟨rfl, below_go (below_go (below_go hB8 hb9) hb10) hb11⟩
            · go_wp2_with fail
              refine (at_any l AC cC _ w8 hlC8 hm).mono ?_
              rintro e w9 ⟨rfl, hb9⟩
              rw [HW.out]
              have hA9 := hA8.below hb9 hA8.lt
              go_wp2_with fail
              refine oper_load_arr rfl (by first | rfl | simp [Act.eval, Act.put]) hA9 ?_
              go_wp2_with fail
              refine (first_any fs fr long n w9 hfl (by omega) (by omega) (by omega) (by omega)).mono ?_
              rintro e w10 ⟨v, hv, rfl, hb10⟩
              have hvV : v = V := First.unique (by omega) HFG.out hv HV.out
              rw [hvV]
              clear hvV hv
              go_wp2_with fail
              refine (sameRef_any l l AC A cC c w10 ((hlC8.below hb9).below hb10) ((hl8.below hb9).below hb10) hm hm).mono ?_
              rintro e w11 ⟨rfl, hb11⟩
              rw [show decide (l = l) = true by simp]
              go_wp2_with fail
              go_ret
              exact ⟨rfl, below_go (below_go (below_go hB8 hb9) hb10) hb11⟩

end Go.Proofs.Ytifmdkcpbajdcaa

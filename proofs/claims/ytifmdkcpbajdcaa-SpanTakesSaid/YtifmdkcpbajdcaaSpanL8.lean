/- Walks: what is taken and given is what the document says. -/
import Derived.Test.YtifmdkcpbajdcaaSpanL7
namespace Go.Proofs.Ytifmdkcpbajdcaa
open Go.RowKit Go.Proofs Plain

set_option maxRecDepth 100000 in
set_option maxHeartbeats 20000000 in
theorem spanTakes_yes (l : Prof) (A : Option Addr) (c : Nat) (fr to n : Int) (w : World) (h : Sl w 2 A l.length (stepCells l)) (hm : l.length ≤ maxLen) (hreach : l.length * 16 ≤ 140737488351232) (hg : goodB l = true) (f0 : 0 ≤ fr) (f1 : fr ≤ to) (f2 : to ≤ 300) (n0 : 0 ≤ n) (n1 : n ≤ 16) :
    Calls Try.prog 6 #[.slice A l.length c, .int .i64 fr, .int .i64 to, .int .i64 n] w fun e w' => e = .returned (.bool true) ∧ Below w.heap.size w w' := by
  obtain ⟨i0, hi0, hz0, hzs, hzb⟩ := info_parts step_info
  have HG := Lib.hid hg
  have hG := Lib.hid ((goodB_iff l).1 hg)
  clear hg
  go_enter Try.func6, Try.ntmps6
  go_wp2_with (at_builtin; refine wpList_append_copy rfl _ _ 23 rfl w.heap.size 32 i0 _ 2 16 Try.underlying23 hi0 hz0 hzs hzb rfl (by decide) rfl A l.length c (stepCells l) rfl h (one_cells l) hm (by omega) (Nat.le_refl _) ?_; intro vC w1 hoC hB1)
  obtain ⟨AC, cC, rfl⟩ := own_form hoC
  have hl1 := h.below hB1
  have hlC1 := Sl.of_own hoC
  go_wp2_with fail
  refine (freeOf_any l A c w1 hl1 hm).mono ?_
  rintro e w2 ⟨fs, hfl, hfs, rfl, hb2⟩
  rw [HG.out]
  have hlg : ∀ t : Nat, t < 300 → val l t = fs.getD t 0 := fun t ht => (hfs HG.out t ht).symm
  have htab : Tab fs := ⟨hfl, fun t ht => by rw [← hlg t ht]; exact val_range hG.out t⟩
  have hTP := take_plain hG.out hlg f0 f1 f2 n0 n1
  have hVP := give_plain hG.out hlg f0 f1 f2 n0 n1
  have hDL : (lessD fs fr to n).length = 300 := lessD_len hfl
  have hEL : (lessD fs fr to (-n)).length = 300 := lessD_len hfl
  have hS1 : stepsTo (lessD fs fr to n) 300 = lessS fs fr to n := rfl
  have hS2 : stepsTo (lessD fs fr to (-n)) 300 = lessS fs fr to (-n) := rfl
  have hC1 := fun W => less_is fs fr to n W htab f0 f1 f2 (by omega) (by omega)
  have hC2 := fun W => less_is fs fr to (-n) W htab f0 f1 f2 (by omega) (by omega)
  have hT900 : (lessS fs fr to n).length ≤ maxLen := by have := stepsTo_len (lessD fs fr to n) 300; unfold lessS maxLen; omega
  have hV900 : (lessS fs fr to (-n)).length ≤ maxLen := by have := stepsTo_len (lessD fs fr to (-n)) 300; unfold lessS maxLen; omega
  generalize lessD fs fr to n = D at hC1 hS1 hDL
  generalize lessD fs fr to (-n) = E at hC2 hS2 hEL
  generalize lessS fs fr to n = T at hTP hS1 hT900
  generalize lessS fs fr to (-n) = G at hVP hS2 hV900
  generalize lessOk fs fr to n = x at hTP hC1
  generalize lessOk fs fr to (-n) = y at hVP hC2
  have HT := Lib.hid hTP
  have HV := Lib.hid hVP
  have HC1 := Lib.hid hC1
  have HC2 := Lib.hid hC2
  have HS1 := Lib.hid hS1
  have HS2 := Lib.hid hS2
  clear hfs hlg htab hTP hVP hC1 hC2 hS1 hS2
  have hl2 := hl1.below hb2
  have hlC2 := hlC1.below hb2
  have hB2 := below_go hB1 hb2
  go_wp2_with (first
    | (refine wpList_alloc_arr rfl rfl ?_; intro wB gB b1 b2 hA0 hbB)
    | (refine wpList_store_arr rfl rfl (by first | rfl | simp [Act.eval, Act.put]) (by first | rfl | simp [Act.eval, Act.put]) hA0 hfl ?_; intro w3 hA hr3))
  have hb3 := hbB.trans (hr3.below b1)
  have hl3 := hl2.below hb3
  have hlC3 := hlC2.below hb3
  have hB3 := below_go hB2 hb3
  refine (take_any l AC cC fr to n w3 hlC3 hm).mono ?_
  rintro e w4 ⟨AT, cT, he4, hT4, hb4⟩
  rw [HT.out] at he4 hT4
  subst he4
  have hl4 := hl3.below hb4
  have hlC4 := hlC3.below hb4
  have hB4 := below_go hB3 hb4
  have hA4 := hA.below hb4 hA.lt
  go_wp2_with fail
  refine (give_any l AC cC fr to n w4 hlC4 hm).mono ?_
  rintro e w5 ⟨AG, cG, he5, hG5, hb5⟩
  rw [HV.out] at he5 hG5
  subst he5
  have hl5 := hl4.below hb5
  have hlC5 := hlC4.below hb5
  have hB5 := below_go hB4 hb5
  have hA5 := hA4.below hb5 hA4.lt
  have hT5 := hT4.below hb5
  go_wp2_with fail
  refine (sameRef_any l l AC A cC c w5 hlC5 hl5 hm hm).mono ?_
  rintro e w6 ⟨rfl, hb6⟩
  rw [show decide (l = l) = true by simp]
  have hl6 := hl5.below hb6
  have hB6 := below_go hB5 hb6
  have hA6 := hA5.below hb6 hA5.lt
  have hT6 := hT5.below hb6
  have hG6 := hG5.below hb6
  go_wp2_with fail
  refine (spansLaw_any _).mono ?_
  rintro e w7 ⟨rfl, hb7⟩
  have hl7 := hl6.below hb7
  have hB7 := below_go hB6 hb7
  have hA7 := hA6.below hb7 hA6.lt
  have hT7 := hT6.below hb7
  have hG7 := hG6.below hb7
  clear hl1 hlC1 hb2 hl2 hlC2 hB2 hbB hr3 hA0 hb3 hl3 hlC3 hB3 hb4 hl4 hlC4 hB4 hb5 hl5 hlC5 hB5 hb6 hl6 hB6 hb7 hA hA4 hA5 hA6 hT4 hT5 hT6 hG5 hG6 h hoC hB1
  have d1 : decide (fr < 0) = false := by simpa using f0
  have d2 : decide (to < fr) = false := by simpa using f1
  have d3 : decide (300 < to) = false := by simpa using f2
  have d4 : decide (n < 0) = false := by simpa using n0
  have d5 : decide (16 < n) = false := by simpa using n1
  go_wp2_with (refine wpList_load_arr rfl rfl (by first | rfl | simp [Act.eval, Act.put]) hA7 ?_)
  refine (HC1.out w7).mono ?_
  rintro e w8 ⟨rfl, hb8⟩
  have hB8 := below_go hB7 hb8
  have hA8 := hA7.below hb8 hA7.lt
  have hT8 := hT7.below hb8
  have hG8 := hG7.below hb8
  have hone := True.intro
  go_wp2_with (first
    | (have _ := hone; refine wpList_alloc_arr rfl rfl ?_; intro wD gD d1 d2 hD0 hbD; clear hone; have hAD := hA8.below hbD hA8.lt)
    | (refine wpList_store_arr rfl rfl (by first | rfl | simp [Act.eval, Act.put]) (by first | rfl | simp [Act.eval, Act.put]) hD0 hDL ?_; intro w9 hD hr9; have hA9 := hr9.arr hAD (by have := hA8.lt; omega))
    | (refine wpList_load_arr rfl rfl (by first | rfl | simp [Act.eval, Act.put]) hA9 ?_))
  have hb9 := hbD.trans (hr9.below d1)
  have hB9 := below_go hB8 hb9
  have hT9 := hT8.below hb9
  have hG9 := hG8.below hb9
  refine (HC2.out w9).mono ?_
  rintro e w10 ⟨rfl, hb10⟩
  have hB10 := below_go hB9 hb10
  have hD10 := hD.below hb10 hD.lt
  have hT10 := hT9.below hb10
  have hG10 := hG9.below hb10
  have htwo := True.intro
  clear hA7 hA8 hAD hA9 hT7 hT8 hT9 hG7 hG8 hG9 hB7 hB8 hB9 hb8 hb9 hb10 hbD hr9 hD0
  go_wp2_with (first
    | (have _ := htwo; refine wpList_alloc_arr rfl rfl ?_; intro wE gE e1 e2 hE0 hbE; clear htwo; have hDE := hD10.below hbE hD10.lt)
    | (refine wpList_store_arr rfl rfl (by first | rfl | simp [Act.eval, Act.put]) (by first | rfl | simp [Act.eval, Act.put]) hE0 hEL ?_; intro w11 hE hr11; have hD11 := hr11.arr hDE (by have := hD10.lt; omega))
    | (refine wpList_load_arr rfl rfl (by first | rfl | simp [Act.eval, Act.put]) hD11 ?_))
  have hb11 := hbE.trans (hr11.below e1)
  have hB11 := below_go hB10 hb11
  have hT11 := hT10.below hb11
  have hG11 := hG10.below hb11
  refine (steps_is D w11 hDL HS1.out).mono ?_
  rintro e w12 ⟨AS, cS, rfl, hS12, hb12⟩
  have hB12 := below_go hB11 hb12
  have hE12 := hE.below hb12 hE.lt
  have hT12 := hT11.below hb12
  have hG12 := hG11.below hb12
  go_wp2_with fail
  refine (sameRef_any T T AT AS cT cS w12 hT12 hS12 hT900 hT900).mono ?_
  rintro e w13 ⟨rfl, hb13⟩
  rw [show decide (T = T) = true by simp]
  have hB13 := below_go hB12 hb13
  have hE13 := hE12.below hb13 hE12.lt
  have hG13 := hG12.below hb13
  clear hT10 hT11 hT12 hG10 hG11 hG12 hB10 hB11 hB12 hb11 hb12 hb13 hbE hr11 hE0 hE hE12 hD10 hDE hD11 hS12
  go_wp2_with fail
  refine oper_load_arr rfl (by first | rfl | simp [Act.eval, Act.put]) hE13 ?_
  go_wp2_with fail
  refine (steps_is E w13 hEL HS2.out).mono ?_
  rintro e w14 ⟨AU, cU, rfl, hS14, hb14⟩
  have hB14 := below_go hB13 hb14
  have hG14 := hG13.below hb14
  go_wp2_with fail
  refine (sameRef_any G G AG AU cG cU w14 hG14 hS14 hV900 hV900).mono ?_
  rintro e w15 ⟨rfl, hb15⟩
  rw [show decide (G = G) = true by simp]
  go_wp2_with fail
  go_ret
  exact ⟨rfl, below_go hB14 hb15⟩

end Go.Proofs.Ytifmdkcpbajdcaa

/- Walks: taking and giving where all is well. -/
import Derived.Test.YtifmdkcpbajdcabSpanW7
namespace Go.Proofs.Ytifmdkcpbajdcab
open Go.RowKit Go.Proofs Plain

theorem cells_set2 (l : Prof) : ∀ (k : Nat) (v : Int), k < l.length → (stepCells l).set (k * 2 + 1) (.int .i64 v) = stepCells (l.set k ((l.getD k (0, 0)).1, v)) := by
  induction l with
  | nil => intro k s h; simp at h
  | cons q l ih =>
    intro k v h
    cases k with
    | zero => simp [stepCells]
    | succ k =>
      rw [show (k + 1) * 2 + 1 = (k * 2 + 1) + 1 + 1 by omega]
      simp only [stepCells, List.set_cons_succ, List.getD_cons_succ]
      rw [ih k v (by simpa using h)]

theorem owns_set2 {w : World} {base g c : Nat} {l : Prof} (h : Owns w base (some ⟨g, 0, none⟩) c l) (k : Nat) (v : Int) (hk : k < l.length) :
    Owns (w.setCell ⟨g, k * 2 + 1, none⟩ (.int .i64 v)) base (some ⟨g, 0, none⟩) c (l.set k ((l.getD k (0, 0)).1, v)) := by
  have h1 := (h.stored (k * 2 + 1) (.int .i64 v)).1
  rw [cells_set2 l k v hk] at h1
  unfold Owns
  rw [List.length_set]
  exact h1

theorem rng_split {l : Prof} {t : Int} (h : ∀ s ∈ l, 0 ≤ s.2 ∧ s.2 ≤ 16) : ∀ s ∈ splitL l t, 0 ≤ s.2 ∧ s.2 ≤ 16 := by
  unfold splitL; split
  · exact h
  · intro s hs
    rcases List.mem_append.1 hs with hs | hs
    · exact h s (List.mem_of_mem_take hs)
    · rcases List.mem_cons.1 hs with rfl | hs
      · simp only []
        by_cases hk : cnt l t - 1 < l.length
        · refine h (l.getD (cnt l t - 1) (0, 0)) ?_
          rw [List.getD_eq_getElem?_getD, List.getElem?_eq_getElem hk]; exact List.getElem_mem _
        · rw [List.getD_eq_getElem?_getD, List.getElem?_eq_none (by omega)]; simp
      · exact h s (List.mem_of_mem_drop hs)

theorem set_at (l : Prof) (k : Nat) (h : k < l.length) : l.set k (l.getD k (0, 0)) = l := by
  rw [List.getD_eq_getElem?_getD, List.getElem?_eq_getElem h]; simp

theorem good_rng {l : Prof} (h : Plain.Good l) : ∀ s ∈ l, 0 ≤ s.2 ∧ s.2 ≤ 16 := by
  have := (goodB_iff l).2 h
  simp only [goodB, Bool.and_eq_true, List.all_eq_true, List.mem_range] at this
  intro s hs
  obtain ⟨i, hi, rfl⟩ := getD_of_mem (0, 0) hs
  have := this.2 i hi
  simp only [okAt, Bool.and_eq_true, decide_eq_true_eq] at this
  exact ⟨this.1.1.1, this.1.1.2⟩

set_option maxRecDepth 100000 in
set_option maxHeartbeats 8000000 in
theorem add_good (l : Prof) (b off c : Nat) (fr to n : Int) (w : World) (h : Sl w 2 (some ⟨b, off, none⟩) l.length (stepCells l)) (hg : Plain.Good l) (h0 : 0 ≤ fr) (h1 : fr ≤ to) (h2 : to ≤ 300) (hn : -16 ≤ n ∧ n ≤ 16) :
    Calls Try.prog 57 #[.slice (some ⟨b, off, none⟩) l.length c, .int .i64 fr, .int .i64 to, .int .i64 n] w (RetPairF (some ⟨b, off, none⟩) (addL l fr to n) w) := by
  obtain ⟨hp, hlen⟩ := good_len hg
  have hgb := (goodB_iff l).2 hg
  obtain ⟨w1', _, _, _⟩ := splitL_good hg.weak h0
  obtain ⟨w2', _, _, _⟩ := splitL_good w1' (show 0 ≤ to by omega)
  have hr1 := rng_split (t := to) (rng_split (t := fr) (good_rng hg))
  have hl1 := split_len l fr
  have hl2 := split_len (splitL l fr) to
  have hp2 : 0 < (splitL (splitL l fr) to).length := by obtain ⟨x, r, e, _⟩ := w2'; rw [e]; simp
  have hm : l.length ≤ maxLen := by unfold maxLen; omega
  have hm16 : l.length * 16 ≤ 140737488355328 := by omega
  have ht : 0 ≤ to ∧ to ≤ 300 := by omega
  have hf : 0 ≤ fr ∧ fr ≤ 300 := by omega
  have hl0 : l.length ≤ 900 := by omega
  have hl3 : (splitL l fr).length ≤ 900 := by omega
  have HA := Lib.hid (show addL l fr to n = if fits fr to n (splitL (splitL l fr) to) = true then (tidyL ((splitL (splitL l fr) to).map (bump fr to n)), true) else (l, false) by
    unfold addL; rw [if_pos ⟨hgb, h0, h1, h2⟩])
  have HW := Lib.hid hg.weak
  have HW1 := Lib.hid w1'
  have HGB := Lib.hid hgb
  have d1 : decide (fr < 0) = false := by simp; omega
  have d2 : decide (to < fr) = false := by simp; omega
  have d3 : decide (300 < to) = false := by simp; omega
  clear w1' w2' hg hl1
  obtain ⟨n1, n2⟩ := hn
  go_enter Try.func57, Try.ntmps57
  go_wp2_with (first
    | (go_at_call 55; refine (good_any l _ c _ h hm).mono ?_; rintro e w1 ⟨rfl, hb1⟩; rw [HGB.out]; have h' := h.below hb1)
    | (go_at_call 66; refine (clone_any l b off c _ h' hm16).mono ?_; rintro e w2 ⟨A2, c2, rfl, ho2, hb2⟩; have hz2 := hb2.size))
  have hz1 := hb1.size
  refine (split_any l A2 c2 w1.heap.size fr w2 ho2 hz2 HW.out hl0 hf).mono ?_
  rintro e w3 ⟨A3, c3, rfl, ho3, hb3⟩
  have hz3 := hb3.size
  go_wp2_with fail
  refine (split_any (splitL l fr) A3 c3 w1.heap.size to w3 ho3 (by omega) HW1.out hl3 ht).mono ?_
  rintro e w4 ⟨A4, c4, rfl, ho4, hb4⟩
  have hz4 := hb4.size
  have hbel : Below w.heap.size w w4 := hb1.trans ((hb2.mono hz1).trans ((hb3.mono hz1).trans (hb4.mono hz1)))
  have hbel1 : Below w1.heap.size w1 w4 := hb2.trans (hb3.trans hb4)
  generalize splitL (splitL l fr) to = own at *
  obtain ⟨g, rfl, hbg, hgw, hlc, hcm, _⟩ := owns_at ho4 hp2
  have hown0 := Lib.hid (show Owns w4 w1.heap.size (some ⟨g, 0, none⟩) c4 (bumpTo fr to n own 0) by rw [bumpTo_zero]; exact ho4)
  have HR := Lib.hid hr1
  have HSL := Lib.hid h
  have hown : own.length ≤ 902 := by omega
  have HB1 := Lib.hid hb1
  clear hbel ho2 ho3 ho4 hb1 hb2 hb3 hb4 hl2 hr1 HW HW1 h h' hcm hlc
  go_wp2_with fail
  go_loopw [37] (fun i wr => ∃ k : Nat, k ≤ own.length ∧ i = .int .i64 k ∧ (∀ j, j < k → fitAt fr to n (own.getD j (0, 0)) = true) ∧ Owns wr w1.heap.size (some ⟨g, 0, none⟩) c4 (bumpTo fr to n own k) ∧ Below w1.heap.size w1 wr) (fun i _ => own.length - (intOf i).toNat)
  case atStart => exact ⟨0, Nat.zero_le _, rfl, fun j hj => absurd hj (by omega), hown0.out, hbel1⟩
  case round =>
    obtain ⟨k, hk, rfl, hok, ho, hbw⟩ := hrel
    clear hown0 hbel1
    by_cases hlt : k < own.length
    · have hkb : k < (bumpTo fr to n own k).length := by rw [bumpTo_len]; exact hlt
      obtain ⟨c1, c2⟩ := owns_cells ho k hkb
      have fz2 := ho.frozenAt (k * 2 + 1)
      have HOK := Lib.hid hok
      have HO := Lib.hid ho
      have HS := Lib.hid (bumpTo_succ fr to n own k hlt)
      have HAT := Lib.hid (bumpTo_at fr to n own k hlt)
      rw [bumpTo_at fr to n own k hlt] at c1 c2
      have hrg := HR.out (own.getD k (0, 0)) (by rw [List.getD_eq_getElem?_getD, List.getElem?_eq_getElem hlt]; exact List.getElem_mem _)
      have HF := Lib.hid (fun h => fits_no (fr := fr) (to := to) (n := n) hlt h)
      have HM := Lib.hid (show fitAt fr to n (own.getD k (0, 0)) = true → ∀ j, j < k + 1 → fitAt fr to n (own.getD j (0, 0)) = true from fun h j hj => by
        by_cases e : j = k
        · rw [e]; exact h
        · exact HOK.out j (by omega))
      have HKB := Lib.hid hkb
      clear hok ho hkb
      have hbase : w1.heap.size ≤ wr.heap.size := hbw.size
      have HSET := Lib.hid (fun v => owns_set2 HO.out k v HKB.out)
      rw [HAT.out] at HSET
      have HSAME := Lib.hid (set_at (bumpTo fr to n own k) k HKB.out)
      rw [HAT.out] at HSAME
      clear HAT HOK
      generalize hq : own.getD k (0, 0) = q at *
      have HQ := Lib.hid hq
      clear hq
      obtain ⟨x, y⟩ := q
      dsimp only at c1 c2 hrg
      obtain ⟨y0, y1⟩ := hrg
      by_cases e1 : fr ≤ x
      · by_cases e2 : x < to
        · have HBUMP := Lib.hid (show bump fr to n (x, y) = (x, y + n) by unfold bump; rw [if_pos ⟨e1, e2⟩])
          by_cases e3 : y + n < 0
          · have HN := Lib.hid (HF.out (show fitAt fr to n (x, y) = false by simp [fitAt, e1, e2]; omega))
            go_wp2_with fail
            go_ret2
            have hE : addL l fr to n = (l, false) := by rw [HA.out, if_neg (by rw [HN.out]; simp)]
            have hB : Below w.heap.size w (wr.setCell ⟨g, k * 2 + 1, none⟩ (.int .i64 (y + n))) := (HB1.out.trans (hbw.mono hz1)).setCell (by show w.heap.size ≤ g; omega) _
            exact ⟨some ⟨b, off, none⟩, c, by rw [hE]; rfl, by rw [hE]; exact HSL.out.below hB, hB, .inl rfl⟩
          · have d4 : decide (y + n < 0) = false := by simpa using e3
            by_cases e4 : 16 < y + n
            · have HN := Lib.hid (HF.out (show fitAt fr to n (x, y) = false by simp [fitAt, e1, e2]; omega))
              go_wp2_with fail
              go_ret2
              have hE : addL l fr to n = (l, false) := by rw [HA.out, if_neg (by rw [HN.out]; simp)]
              have hB : Below w.heap.size w (wr.setCell ⟨g, k * 2 + 1, none⟩ (.int .i64 (y + n))) := (HB1.out.trans (hbw.mono hz1)).setCell (by show w.heap.size ≤ g; omega) _
              exact ⟨some ⟨b, off, none⟩, c, by rw [hE]; rfl, by rw [hE]; exact HSL.out.below hB, hB, .inl rfl⟩
            · have HY := Lib.hid (HM.out (show fitAt fr to n (x, y) = true by simp [fitAt]; omega))
              have HO1 := Lib.hid (HSET.out (y + n))
              go_wp2_with fail
              go_roundw
              case rel => exact ⟨k + 1, hlt, by go_num, HY.out, by rw [HS.out, HBUMP.out]; exact HO1.out, hbw.setCell hbg _⟩
              case measure => simp [intOf] <;> omega
        · have HBUMP := Lib.hid (show bump fr to n (x, y) = (x, y) by unfold bump; rw [if_neg (fun h => e2 h.2)])
          have HY := Lib.hid (HM.out (show fitAt fr to n (x, y) = true by simp [fitAt]; omega))
          have HO2 := Lib.hid (show Owns wr w1.heap.size (some ⟨g, 0, none⟩) c4 (bumpTo fr to n own (k + 1)) by rw [HS.out, HBUMP.out, HSAME.out]; exact HO.out)
          go_wp2_with fail
          go_roundw
          case rel => exact ⟨k + 1, hlt, by go_num, HY.out, HO2.out, hbw⟩
          case measure => simp [intOf] <;> omega
      · have HBUMP := Lib.hid (show bump fr to n (x, y) = (x, y) by unfold bump; rw [if_neg (fun h => e1 h.1)])
        have HY := Lib.hid (HM.out (show fitAt fr to n (x, y) = true by simp [fitAt]; omega))
        have HO2 := Lib.hid (show Owns wr w1.heap.size (some ⟨g, 0, none⟩) c4 (bumpTo fr to n own (k + 1)) by rw [HS.out, HBUMP.out, HSAME.out]; exact HO.out)
        go_wp2_with fail
        go_roundw
        case rel => exact ⟨k + 1, hlt, by go_num, HY.out, HO2.out, hbw⟩
        case measure => simp [intOf] <;> omega
    · obtain rfl : k = own.length := by omega
      rw [bumpTo_all] at ho
      have hml : (own.map (bump fr to n)).length = own.length := by simp
      have HE := Lib.hid (show addL l fr to n = (tidyL (own.map (bump fr to n)), true) by rw [HA.out, if_pos (fits_yes hok)])
      have HO := Lib.hid ho
      have HML := Lib.hid hml
      have hzr := hbw.size
      clear ho hok hml
      go_wp2_with fail
      have htd := tidy_any (own.map (bump fr to n)) g c4 w1.heap.size wr HO.out hzr (by rw [HML.out]; omega) (by rw [HML.out]; omega)
      rw [HML.out] at htd
      refine htd.mono ?_
      rintro e w5 ⟨A5, c5, rfl, ho5, hb5⟩
      go_wp2_with fail
      go_ret2
      have hB : Below w.heap.size w w5 := (HB1.out.trans (hbw.mono hz1)).trans (hb5.mono hz1)
      exact ⟨A5, c5, by rw [HE.out]; rfl, by rw [HE.out]; exact owns_sl ho5, hB, .inr ((fr_own ho5).mono hz1)⟩
end Go.Proofs.Ytifmdkcpbajdcab

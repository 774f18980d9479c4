/- Walks: what is taken and given is what the document says. -/
import Derived.Test.YtifmdkcpbajdcaaRef4
import Derived.Test.YtifmdkcpbajdcaaSpanL2
import Derived.Test.YtifmdkcpbajdcaaSpanLawPlain
namespace Go.Proofs.Ytifmdkcpbajdcaa
open Go.RowKit Go.Proofs Plain

theorem giveL_no {l : Prof} {fr to n : Int} (h : (giveL l fr to n).2 = false) : giveL l fr to n = (l, false) := by
  have : (giveL l fr to n).1 = l := by
    unfold giveL at *
    split at h
    · rename_i h1; rw [if_pos h1]; exact addL_no h
    · rename_i h1; rw [if_neg h1]
  exact Prod.ext this h

theorem giveL_yes {l : Prof} {fr to n : Int} (h : (giveL l fr to n).2 = true) : Plain.Good l ∧ 0 ≤ fr ∧ fr ≤ to ∧ to ≤ 300 ∧ 0 ≤ n ∧ n ≤ 16 := by
  unfold giveL at h
  split at h
  · rename_i h1
    unfold addL at h
    split at h
    · rename_i h2; exact ⟨(goodB_iff l).1 h2.1, h2.2.1, h2.2.2.1, h2.2.2.2, h1.1, h1.2⟩
    · simp at h
  · simp at h

/-- What a table leaves; its steps. -/
def lessD (fs : List Int) (fr to n : Int) : List Int := if lessOk fs fr to n = true then lessL fs fr to n else fs
def lessS (fs : List Int) (fr to n : Int) : Prof := stepsTo (lessD fs fr to n) 300
theorem lessD_len {fs : List Int} {fr to n : Int} (h : fs.length = 300) : (lessD fs fr to n).length = 300 := by
  unfold lessD; split
  · exact lessL_len _ _ _ _
  · exact h

theorem add_plain {l : Prof} {fs : List Int} {fr to n : Int} (hG : Plain.Good l) (hlg : ∀ t : Nat, t < 300 → val l t = fs.getD t 0) (h0 : 0 ≤ fr) (h1 : fr ≤ to) (h2 : to ≤ 300) :
    addL l fr to (-n) = (lessS fs fr to n, lessOk fs fr to n) := by
  obtain ⟨a, b⟩ := add_less (n := n) hG hlg h0 h1 h2
  refine Prod.ext ?_ a
  show _ = stepsTo (lessD fs fr to n) 300
  by_cases c : lessOk fs fr to n = true
  · obtain ⟨g1, g2⟩ := b (a.trans c)
    unfold lessD
    rw [if_pos c]
    exact (steps_eq g1 g2).symm
  · unfold lessD
    rw [if_neg c, steps_eq hG hlg]
    exact addL_no (by rw [a]; simpa using c)

theorem take_plain {l : Prof} {fs : List Int} {fr to n : Int} (hG : Plain.Good l) (hlg : ∀ t : Nat, t < 300 → val l t = fs.getD t 0) (h0 : 0 ≤ fr) (h1 : fr ≤ to) (h2 : to ≤ 300) (n0 : 0 ≤ n) (n1 : n ≤ 16) :
    takeL l fr to n = (lessS fs fr to n, lessOk fs fr to n) := by
  unfold takeL; rw [if_pos ⟨n0, n1⟩]; exact add_plain hG hlg h0 h1 h2
theorem give_plain {l : Prof} {fs : List Int} {fr to n : Int} (hG : Plain.Good l) (hlg : ∀ t : Nat, t < 300 → val l t = fs.getD t 0) (h0 : 0 ≤ fr) (h1 : fr ≤ to) (h2 : to ≤ 300) (n0 : 0 ≤ n) (n1 : n ≤ 16) :
    giveL l fr to n = (lessS fs fr to (-n), lessOk fs fr to (-n)) := by
  have := add_plain (n := -n) hG hlg h0 h1 h2
  rw [Int.neg_neg] at this
  unfold giveL; rw [if_pos ⟨n0, n1⟩]; exact this

theorem less_is (fs : List Int) (fr to n : Int) (w : World) (hf : Tab fs) (h0 : 0 ≤ fr) (h1 : fr ≤ to) (h2 : to ≤ 300) (h3 : -16 ≤ n) (h4 : n ≤ 16) :
    Calls Try.prog 23 #[.agg (arr fs), .int .i64 fr, .int .i64 to, .int .i64 n] w fun e w' => e = .returned (.tuple #[.agg (arr (lessD fs fr to n)), .bool (lessOk fs fr to n)]) ∧ Below w.heap.size w w' :=
  (less_any fs fr to n w hf h0 h1 h2 h3 h4).mono fun _ _ h => h

theorem steps_is (fs : List Int) (w : World) (hl : fs.length = 300) {T : Prof} (hT : stepsTo fs 300 = T) :
    Calls Try.prog 24 #[.agg (arr fs)] w (RetSteps T w) := by subst hT; exact steps_any fs w hl


set_option maxRecDepth 100000 in
set_option maxHeartbeats 20000000 in
theorem spanTakes_no (l : Prof) (A : Option Addr) (c : Nat) (fr to n : Int) (w : World) (h : Sl w 2 A l.length (stepCells l)) (hm : l.length ≤ maxLen) (hreach : l.length * 16 ≤ 140737488351232) (hg : goodB l = false) :
    Calls Try.prog 6 #[.slice A l.length c, .int .i64 fr, .int .i64 to, .int .i64 n] w fun e w' => e = .returned (.bool true) ∧ Below w.heap.size w w' := by
  obtain ⟨i0, hi0, hz0, hzs, hzb⟩ := info_parts step_info
  have HG := Lib.hid (show goodB l = false from hg)
  have HT := Lib.hid (show takeL l fr to n = (l, false) from takeL_no (by rw [← Bool.not_eq_true]; intro hh; have := takeL_yes hh; rw [(goodB_iff l).2 this.1] at hg; cases hg))
  have HV := Lib.hid (show giveL l fr to n = (l, false) from giveL_no (by rw [← Bool.not_eq_true]; intro hh; have := giveL_yes hh; rw [(goodB_iff l).2 this.1] at hg; cases hg))
  clear hg
  go_enter Try.func6, Try.ntmps6
  go_wp2_with (at_builtin; refine wpList_append_copy rfl _ _ 23 rfl w.heap.size 32 i0 _ 2 16 Try.underlying23 hi0 hz0 hzs hzb rfl (by decide) rfl A l.length c (stepCells l) rfl h (one_cells l) hm (by omega) (Nat.le_refl _) ?_; intro vC w1 hoC hB1)
  obtain ⟨AC, cC, rfl⟩ := own_form hoC
  have hl1 := h.below hB1
  have hlC1 := Sl.of_own hoC
  go_wp2_with fail
  refine (freeOf_any l A c w1 hl1 hm).mono ?_
  rintro e w2 ⟨fs, hfl, hfs, rfl, hb2⟩
  rw [HG.out]
  have HFS := Lib.hid hfs
  clear hfs
  have hl2 := hl1.below hb2
  have hlC2 := hlC1.below hb2
  have hB2 := below_go hB1 hb2
  go_wp2_with (first
    | (refine wpList_alloc_arr rfl rfl ?_; intro wB gB b1 b2 hA0 hbB)
    | (refine wpList_store_arr rfl rfl (by first | rfl | simp [Act.eval, Act.put]) (by first | rfl | simp [Act.eval, Act.put]) hA0 hfl ?_; intro w3 hA hr3))
  have hb3 := hbB.trans (hr3.below b1)
  have hl3 := hl2.below hb3
  have hlC3 := hlC2.below hb3
  have hB3 := below_go hB2 hb3
  refine (take_any l AC cC fr to n w3 hlC3 hm).mono ?_
  rintro e w4 ⟨AT, cT, he4, hT4, hb4⟩
  rw [HT.out] at he4 hT4
  subst he4
  have hl4 := hl3.below hb4
  have hlC4 := hlC3.below hb4
  have hB4 := below_go hB3 hb4
  have hA4 := hA.below hb4 hA.lt
  go_wp2_with fail
  refine (give_any l AC cC fr to n w4 hlC4 hm).mono ?_
  rintro e w5 ⟨AG, cG, he5, hG5, hb5⟩
  rw [HV.out] at he5 hG5
  subst he5
  have hl5 := hl4.below hb5
  have hlC5 := hlC4.below hb5
  have hB5 := below_go hB4 hb5
  have hA5 := hA4.below hb5 hA4.lt
  have hT5 := hT4.below hb5
  go_wp2_with fail
  refine (sameRef_any l l AC A cC c w5 hlC5 hl5 hm hm).mono ?_
  rintro e w6 ⟨rfl, hb6⟩
  rw [show decide (l = l) = true by simp]
  have hl6 := hl5.below hb6
  have hB6 := below_go hB5 hb6
  have hA6 := hA5.below hb6 hA5.lt
  have hT6 := hT5.below hb6
  have hG6 := hG5.below hb6
  go_wp2_with fail
  refine (spansLaw_any _).mono ?_
  rintro e w7 ⟨rfl, hb7⟩
  have hl7 := hl6.below hb7
  have hB7 := below_go hB6 hb7
  have hA7 := hA6.below hb7 hA6.lt
  have hT7 := hT6.below hb7
  have hG7 := hG6.below hb7
  clear hl1 hlC1 hb2 hl2 hlC2 hB2 hbB hr3 hA0 hb3 hl3 hlC3 hB3 hb4 hl4 hlC4 hB4 hb5 hl5 hlC5 hB5 hb6 hl6 hB6 hb7 hA hA4 hA5 hA6 hT4 hT5 hT6 hG5 hG6 h hoC hB1
  clear HFS
  go_wp2_with fail
  refine (sameRef_any l l AT A cT c w7 hT7 hl7 hm hm).mono ?_
  rintro e w8 ⟨rfl, hb8⟩
  rw [show decide (l = l) = true by simp]
  go_wp2_with fail
  refine (sameRef_any l l AG A cG c w8 (hG7.below hb8) (hl7.below hb8) hm hm).mono ?_
  rintro e w9 ⟨rfl, hb9⟩
  rw [show decide (l = l) = true by simp]
  go_wp2_with fail
  go_ret
  exact ⟨rfl, below_go (below_go hB7 hb8) hb9⟩

end Go.Proofs.Ytifmdkcpbajdcaa

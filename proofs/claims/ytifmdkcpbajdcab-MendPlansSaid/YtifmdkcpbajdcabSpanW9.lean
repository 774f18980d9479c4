/- Walks: Take, Give, Fit. -/
import Derived.Test.YtifmdkcpbajdcabSpanW8
namespace Go.Proofs.Ytifmdkcpbajdcab
open Go.RowKit Go.Proofs Plain

theorem add_any (l : Prof) (A : Option Addr) (c : Nat) (fr to n : Int) (w : World) (h : Sl w 2 A l.length (stepCells l)) (hm : l.length ≤ maxLen) (hn : -16 ≤ n ∧ n ≤ 16) :
    Calls Try.prog 57 #[.slice A l.length c, .int .i64 fr, .int .i64 to, .int .i64 n] w (RetPairF A (addL l fr to n) w) := by
  by_cases hg : goodB l = true ∧ 0 ≤ fr ∧ fr ≤ to ∧ to ≤ 300
  · obtain ⟨g1, g2, g3, g4⟩ := hg
    have hgood := (goodB_iff l).1 g1
    obtain ⟨hp, _⟩ := good_len hgood
    obtain ⟨b, off, rfl, _⟩ := h.2 (by omega)
    exact add_good l b off c fr to n w h hgood g2 g3 g4 hn
  · exact add_bad l A c fr to n w h hm hg

set_option maxHeartbeats 400000 in
theorem take_fr (l : Prof) (A : Option Addr) (c : Nat) (fr to n : Int) (w : World) (h : Sl w 2 A l.length (stepCells l)) (hm : l.length ≤ maxLen) :
    Calls Try.prog 33 #[.slice A l.length c, .int .i64 fr, .int .i64 to, .int .i64 n] w (RetPairF A (takeL l fr to n) w) := by
  by_cases hn : 0 ≤ n ∧ n ≤ 16
  · have HF := Lib.hid (show takeL l fr to n = addL l fr to (-n) by unfold takeL; rw [if_pos hn])
    obtain ⟨n1, n2⟩ := hn
    have HB := Lib.hid (show (decide (0 ≤ n) && decide (n ≤ 16)) = true by simp; omega)
    go_enter Try.func33, Try.ntmps33
    go_wp2_with (first
      | (go_at_call 56; refine (small_any n _).mono ?_; rintro e w1 ⟨rfl, rfl⟩; rw [HB.out])
      | (go_at_call 57; refine (add_any l A c fr to (-n) _ h hm ⟨by omega, by omega⟩).mono ?_; rintro e w1 ⟨A1, c1, rfl, h1, h2, h3⟩))
    go_ret2
    exact ⟨A1, c1, by rw [HF.out]; rfl, by rw [HF.out]; exact h1, h2, h3⟩
  · have HF := Lib.hid (show takeL l fr to n = (l, false) by unfold takeL; rw [if_neg hn])
    have HB := Lib.hid (show (decide (0 ≤ n) && decide (n ≤ 16)) = false by rw [Bool.and_eq_false_iff]; simp; omega)
    clear hn
    go_enter Try.func33, Try.ntmps33
    go_wp2_with (go_at_call 56; refine (small_any n _).mono ?_; rintro e w1 ⟨rfl, rfl⟩; rw [HB.out])
    go_ret2
    exact ⟨A, c, by rw [HF.out]; rfl, by rw [HF.out]; exact h, Below.refl _ _, .inl rfl⟩

theorem take_any (l : Prof) (A : Option Addr) (c : Nat) (fr to n : Int) (w : World) (h : Sl w 2 A l.length (stepCells l)) (hm : l.length ≤ maxLen) :
    Calls Try.prog 33 #[.slice A l.length c, .int .i64 fr, .int .i64 to, .int .i64 n] w (RetPair (takeL l fr to n) w) :=
  (take_fr l A c fr to n w h hm).mono fun _ _ h => h.pair

theorem nextAt_drop (l : Prof) (k : Nat) (h : k < l.length) : nextAt (l.drop (k + 1)) = if k + 1 < l.length then (l.getD (k + 1) (0, 0)).1 else 300 := by
  by_cases h1 : k + 1 < l.length
  · rw [if_pos h1, List.drop_eq_getElem_cons h1]
    simp only [nextAt]; rw [List.getD_eq_getElem?_getD, List.getElem?_eq_getElem h1]; rfl
  · rw [if_neg h1, List.drop_eq_nil_of_le (by omega)]; rfl

theorem fitGo_drop (l : Prof) (long n u : Int) (k : Nat) (h : k < l.length) :
    fitGo long n u (l.drop k) = if nextAt (l.drop (k + 1)) ≤ u then (if 300 - long + 1 ≤ u then -1 else fitGo long n u (l.drop (k + 1)))
      else if (l.getD k (0, 0)).2 < n then (if 300 - long + 1 ≤ nextAt (l.drop (k + 1)) then -1 else fitGo long n (nextAt (l.drop (k + 1))) (l.drop (k + 1)))
      else if u + long ≤ nextAt (l.drop (k + 1)) then u else if 300 - long + 1 ≤ u then -1 else fitGo long n u (l.drop (k + 1)) := by
  rw [List.drop_eq_getElem_cons h, List.getD_eq_getElem?_getD, List.getElem?_eq_getElem h]
  rfl

set_option maxHeartbeats 4000000 in
theorem fit_any (l : Prof) (A : Option Addr) (c : Nat) (fr long n : Int) (w : World) (h : Sl w 2 A l.length (stepCells l)) (hm : l.length ≤ maxLen) :
    Calls Try.prog 32 #[.slice A l.length c, .int .i64 fr, .int .i64 long, .int .i64 n] w fun e w' => e = .returned (.int .i64 (fitL l fr long n)) ∧ Below w.heap.size w w' := by
  by_cases hg : goodB l = true
  · by_cases h1 : fr < 0
    · have HF := Lib.hid (show fitL l fr long n = -1 by unfold fitL; rw [if_neg (by omega)])
      go_enter Try.func32, Try.ntmps32
      go_wp2_with (go_at_call 55; refine (good_any l A c _ h hm).mono ?_; rintro e w1 ⟨rfl, hb1⟩)
      go_ret
      exact ⟨by rw [HF.out]; rfl, hb1⟩
    · by_cases h2 : long < 1
      · have HF := Lib.hid (show fitL l fr long n = -1 by unfold fitL; rw [if_neg (by omega)])
        go_enter Try.func32, Try.ntmps32
        go_wp2_with (go_at_call 55; refine (good_any l A c _ h hm).mono ?_; rintro e w1 ⟨rfl, hb1⟩)
        go_ret
        exact ⟨by rw [HF.out]; rfl, hb1⟩
      · by_cases h3 : 300 < long
        · have HF := Lib.hid (show fitL l fr long n = -1 by unfold fitL; rw [if_neg (by omega)])
          go_enter Try.func32, Try.ntmps32
          go_wp2_with (go_at_call 55; refine (good_any l A c _ h hm).mono ?_; rintro e w1 ⟨rfl, hb1⟩)
          go_ret
          exact ⟨by rw [HF.out]; rfl, hb1⟩
        · by_cases h4 : n < 0
          · have HF := Lib.hid (show fitL l fr long n = -1 by unfold fitL; rw [if_neg (by omega)])
            go_enter Try.func32, Try.ntmps32
            go_wp2_with (go_at_call 55; refine (good_any l A c _ h hm).mono ?_; rintro e w1 ⟨rfl, hb1⟩)
            go_ret
            exact ⟨by rw [HF.out]; rfl, hb1⟩
          · have HF := Lib.hid (show fitL l fr long n = fitGo long n fr l by unfold fitL; rw [if_pos ⟨hg, by omega, by omega, by omega, by omega⟩])
            have hgood := (goodB_iff l).1 hg
            have HR := Lib.hid hgood.weak.rises
            obtain ⟨hp, hlen⟩ := good_len hgood
            have HG := Lib.hid hg
            clear hgood hg hm
            have hm : l.length ≤ maxLen := by unfold maxLen; omega
            have d1 : decide (fr < 0) = false := by simp; omega
            have d2 : decide (long < 1) = false := by simp; omega
            have d3 : decide (300 < long) = false := by simp; omega
            have d4 : decide (n < 0) = false := by simp; omega
            go_enter Try.func32, Try.ntmps32
            go_wp2_with (go_at_call 55; refine (good_any l A c _ h hm).mono ?_; rintro e w1 ⟨rfl, hb1⟩; rw [HG.out])
            go_loopw [9, 35] (fun v i wr => ∃ (k : Nat) (u : Int), k ≤ l.length ∧ i = .int .i64 k ∧ v = .int .i64 u ∧ 0 ≤ u ∧ fitGo long n u (l.drop k) = fitGo long n fr l ∧ Below w.heap.size w wr) (fun _ i _ => l.length - (intOf i).toNat)
            case atStart => exact ⟨0, fr, Nat.zero_le _, rfl, rfl, by omega, rfl, hb1⟩
            case round =>
              obtain ⟨k, u, hk, rfl, rfl, hu, hrel, hb⟩ := hrel
              clear hb1
              by_cases hlt : k < l.length
              · have hsl := h.below hb
                obtain ⟨b, off, rfl, hbl, hcells⟩ := steps_at hsl (by omega)
                obtain ⟨c1, c2⟩ := hcells k hlt
                have HGO := Lib.hid (fitGo_drop l long n u k hlt)
                rw [nextAt_drop l k hlt] at HGO
                have HREL := Lib.hid hrel
                have hw1 : IntKind.i64.wrap ((k : Int) + 1) = (k : Int) + 1 := IntWalk.i64_in _ (by omega)
                by_cases hn1 : k + 1 < l.length
                · obtain ⟨c3, _⟩ := hcells (k + 1) hn1
                  have hz := HR.out.bd (k + 1) hn1
                  rw [if_pos hn1] at HGO
                  clear hcells hsl h hrel
                  generalize (l.getD k (0, 0)).1 = x at c1
                  generalize (l.getD k (0, 0)).2 = y at c2 HGO
                  generalize (l.getD (k + 1) (0, 0)).1 = z at c3 hz HGO
                  obtain ⟨z0, z1⟩ := hz
                  by_cases q1 : z ≤ u
                  · by_cases q2 : 300 - long + 1 ≤ u
                    · have HX := Lib.hid (show fitGo long n u (l.drop k) = -1 by rw [HGO.out, if_pos q1, if_pos q2])
                      go_wp2_with fail
                      go_ret
                      exact ⟨by rw [HF.out, ← HREL.out, HX.out]; rfl, hb.alloc hb.size _⟩
                    · have HX := Lib.hid (show fitGo long n u (l.drop (k + 1)) = fitGo long n fr l by rw [← HREL.out, HGO.out, if_pos q1, if_neg q2])
                      go_wp2_with fail
                      go_roundw
                      case rel => exact ⟨k + 1, u, hlt, by go_num, rfl, by omega, HX.out, hb.alloc hb.size _⟩
                      case measure => simp [intOf] <;> omega
                  · by_cases q3 : y < n
                    · by_cases q2 : 300 - long + 1 ≤ z
                      · have HX := Lib.hid (show fitGo long n u (l.drop k) = -1 by rw [HGO.out, if_neg q1, if_pos q3, if_pos q2])
                        go_wp2_with fail
                        go_ret
                        exact ⟨by rw [HF.out, ← HREL.out, HX.out]; rfl, hb.alloc hb.size _⟩
                      · have HX := Lib.hid (show fitGo long n z (l.drop (k + 1)) = fitGo long n fr l by rw [← HREL.out, HGO.out, if_neg q1, if_pos q3, if_neg q2])
                        go_wp2_with fail
                        go_roundw
                        case rel => exact ⟨k + 1, z, hlt, by go_num, rfl, by omega, HX.out, hb.alloc hb.size _⟩
                        case measure => simp [intOf] <;> omega
                    · by_cases q4 : u + long ≤ z
                      · have HX := Lib.hid (show fitGo long n u (l.drop k) = u by rw [HGO.out, if_neg q1, if_neg q3, if_pos q4])
                        go_wp2_with fail
                        go_ret
                        exact ⟨by rw [HF.out, ← HREL.out, HX.out]; rfl, hb.alloc hb.size _⟩
                      · by_cases q2 : 300 - long + 1 ≤ u
                        · have HX := Lib.hid (show fitGo long n u (l.drop k) = -1 by rw [HGO.out, if_neg q1, if_neg q3, if_neg q4, if_pos q2])
                          go_wp2_with fail
                          go_ret
                          exact ⟨by rw [HF.out, ← HREL.out, HX.out]; rfl, hb.alloc hb.size _⟩
                        · have HX := Lib.hid (show fitGo long n u (l.drop (k + 1)) = fitGo long n fr l by rw [← HREL.out, HGO.out, if_neg q1, if_neg q3, if_neg q4, if_neg q2])
                          go_wp2_with fail
                          go_roundw
                          case rel => exact ⟨k + 1, u, hlt, by go_num, rfl, by omega, HX.out, hb.alloc hb.size _⟩
                          case measure => simp [intOf] <;> omega
                · rw [if_neg hn1] at HGO
                  clear hcells hsl h hrel
                  generalize (l.getD k (0, 0)).1 = x at c1
                  generalize (l.getD k (0, 0)).2 = y at c2 HGO
                  by_cases q1 : 300 ≤ u
                  · by_cases q2 : 300 - long + 1 ≤ u
                    · have HX := Lib.hid (show fitGo long n u (l.drop k) = -1 by rw [HGO.out, if_pos q1, if_pos q2])
                      go_wp2_with fail
                      go_ret
                      exact ⟨by rw [HF.out, ← HREL.out, HX.out]; rfl, hb.alloc hb.size _⟩
                    · exfalso; omega
                  · by_cases q3 : y < n
                    · by_cases q2 : 300 - long + 1 ≤ 300
                      · have HX := Lib.hid (show fitGo long n u (l.drop k) = -1 by rw [HGO.out, if_neg q1, if_pos q3, if_pos q2])
                        go_wp2_with fail
                        go_ret
                        exact ⟨by rw [HF.out, ← HREL.out, HX.out]; rfl, hb.alloc hb.size _⟩
                      · exfalso; omega
                    · by_cases q4 : u + long ≤ 300
                      · have HX := Lib.hid (show fitGo long n u (l.drop k) = u by rw [HGO.out, if_neg q1, if_neg q3, if_pos q4])
                        go_wp2_with fail
                        go_ret
                        exact ⟨by rw [HF.out, ← HREL.out, HX.out]; rfl, hb.alloc hb.size _⟩
                      · by_cases q2 : 300 - long + 1 ≤ u
                        · have HX := Lib.hid (show fitGo long n u (l.drop k) = -1 by rw [HGO.out, if_neg q1, if_neg q3, if_neg q4, if_pos q2])
                          go_wp2_with fail
                          go_ret
                          exact ⟨by rw [HF.out, ← HREL.out, HX.out]; rfl, hb.alloc hb.size _⟩
                        · exfalso; omega
              · obtain rfl : k = l.length := by omega
                rw [List.drop_length] at hrel
                have HREL := Lib.hid hrel
                clear hrel
                go_wp2_with fail
                go_ret
                exact ⟨by rw [HF.out, ← HREL.out]; rfl, hb⟩
  · have hg : goodB l = false := by simpa using hg
    have HF := Lib.hid (show fitL l fr long n = -1 by unfold fitL; rw [if_neg (by rw [hg]; simp)])
    go_enter Try.func32, Try.ntmps32
    go_wp2_with (go_at_call 55; refine (good_any l A c _ h hm).mono ?_; rintro e w1 ⟨rfl, hb1⟩)
    go_ret
    exact ⟨by rw [HF.out]; rfl, hb1⟩
end Go.Proofs.Ytifmdkcpbajdcab

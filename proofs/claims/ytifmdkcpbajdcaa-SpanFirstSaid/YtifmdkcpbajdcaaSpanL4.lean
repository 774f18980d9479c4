/- Walks: there is room from the first time on, and from no time ahead of it. -/
import Derived.Test.YtifmdkcpbajdcaaSpanL3
namespace Go.Proofs.Ytifmdkcpbajdcaa
open Go.RowKit Go.Proofs Plain

theorem fits_take {l : Prof} (hg : Plain.Good l) {t long n : Int} (hl : 1 ≤ long) (hn : 0 ≤ n ∧ n ≤ 16) (ht : 0 ≤ t) :
    (takeL l t (t + long) n).2 = true ↔ Fits (val l) long n t := by
  unfold takeL
  rw [if_pos hn]
  by_cases h3 : t + long ≤ 300
  · obtain ⟨a1, _, _⟩ := addL_good (n := -n) hg ht (show t ≤ t + long by omega) h3
    rw [a1]
    constructor
    · intro h
      exact ⟨h3, fun k k0 k1 => by have := (h k k0 k1).1; omega⟩
    · intro h k k0 k1
      have := h.2 k k0 k1
      have := val_range hg k
      omega
  · have : addL l t (t + long) (-n) = (l, false) := addL_bad fun h => h3 h.2.2.2
    rw [this]
    exact ⟨fun h => by simp at h, fun h => absurd h.1 h3⟩

set_option maxRecDepth 100000 in
set_option maxHeartbeats 4000000 in
theorem spanFirst_walk (l : Prof) (A : Option Addr) (c : Nat) (fr long n : Int) (w : World) (h : Sl w 2 A l.length (stepCells l)) (hm : l.length ≤ maxLen) :
    Calls Try.prog 5 #[.slice A l.length c, .int .i64 fr, .int .i64 long, .int .i64 n] w fun e w' => e = .returned (.bool true) ∧ Below w.heap.size w w' := by
  by_cases hg : goodB l = true
  · have HG := Lib.hid hg
    by_cases b1 : fr < 0
    · clear hg
      go_enter Try.func5, Try.ntmps5
      go_wp2_with (first | (go_at_call 13; refine (good_any l A c _ h hm).mono ?_; rintro e w1 ⟨rfl, hb1⟩; rw [HG.out]) | (go_at_call 20; refine (spansKeep_any _).mono ?_; rintro e w2 ⟨rfl, hb2⟩))
      go_ret
      exact ⟨rfl, hb1.trans (hb2.mono hb1.size)⟩
    · have d1 : decide (fr < 0) = false := by simpa using b1
      by_cases b2 : 300 < fr
      · clear hg
        go_enter Try.func5, Try.ntmps5
        go_wp2_with (first | (go_at_call 13; refine (good_any l A c _ h hm).mono ?_; rintro e w1 ⟨rfl, hb1⟩; rw [HG.out]) | (go_at_call 20; refine (spansKeep_any _).mono ?_; rintro e w2 ⟨rfl, hb2⟩))
        go_ret
        exact ⟨rfl, hb1.trans (hb2.mono hb1.size)⟩
      · have d2 : decide (300 < fr) = false := by simpa using b2
        by_cases b3 : long < 1
        · clear hg
          go_enter Try.func5, Try.ntmps5
          go_wp2_with (first | (go_at_call 13; refine (good_any l A c _ h hm).mono ?_; rintro e w1 ⟨rfl, hb1⟩; rw [HG.out]) | (go_at_call 20; refine (spansKeep_any _).mono ?_; rintro e w2 ⟨rfl, hb2⟩))
          go_ret
          exact ⟨rfl, hb1.trans (hb2.mono hb1.size)⟩
        · have d3 : decide (long < 1) = false := by simpa using b3
          by_cases b4 : 300 < long
          · clear hg
            go_enter Try.func5, Try.ntmps5
            go_wp2_with (first | (go_at_call 13; refine (good_any l A c _ h hm).mono ?_; rintro e w1 ⟨rfl, hb1⟩; rw [HG.out]) | (go_at_call 20; refine (spansKeep_any _).mono ?_; rintro e w2 ⟨rfl, hb2⟩))
            go_ret
            exact ⟨rfl, hb1.trans (hb2.mono hb1.size)⟩
          · have d4 : decide (300 < long) = false := by simpa using b4
            by_cases b5 : n < 0
            · clear hg
              go_enter Try.func5, Try.ntmps5
              go_wp2_with (first | (go_at_call 13; refine (good_any l A c _ h hm).mono ?_; rintro e w1 ⟨rfl, hb1⟩; rw [HG.out]) | (go_at_call 20; refine (spansKeep_any _).mono ?_; rintro e w2 ⟨rfl, hb2⟩))
              go_ret
              exact ⟨rfl, hb1.trans (hb2.mono hb1.size)⟩
            · have d5 : decide (n < 0) = false := by simpa using b5
              by_cases b6 : 16 < n
              · clear hg
                go_enter Try.func5, Try.ntmps5
                go_wp2_with (first | (go_at_call 13; refine (good_any l A c _ h hm).mono ?_; rintro e w1 ⟨rfl, hb1⟩; rw [HG.out]) | (go_at_call 20; refine (spansKeep_any _).mono ?_; rintro e w2 ⟨rfl, hb2⟩))
                go_ret
                exact ⟨rfl, hb1.trans (hb2.mono hb1.size)⟩
              · have d6 : decide (16 < n) = false := by simpa using b6
                have hgood := (goodB_iff l).1 hg
                have hf := fitL_first (long := long) (n := n) (fr := fr) hgood (by omega) (by omega) (by omega) (by omega)
                have HGD := Lib.hid hgood
                have hv : fitL l fr long n = -1 ∨ 0 ≤ fitL l fr long n := by
                  rcases First.none_or (by omega) hf with e | ⟨_, e, _⟩
                  · exact .inl e
                  · exact .inr e
                rcases hv with hv | hv
                · -- there is none
                  have HV := Lib.hid hv
                  have HNO := Lib.hid (show ∀ t : Int, fr ≤ t → (takeL l t (t + long) n).2 = false from fun t ht => by
                    rcases hf with ⟨_, g⟩ | ⟨g, _⟩
                    · have := g t ht
                      rw [← fits_take HGD.out (by omega) ⟨by omega, by omega⟩ (by omega)] at this
                      simpa using this
                    · omega)
                  clear hv hf hg hgood
                  have HT1 := Lib.hid (show (takeL l (-1) (-1 + long) n).2 = false by
                    unfold takeL; rw [if_pos ⟨by omega, by omega⟩, addL_bad fun h => by omega])
                  go_enter Try.func5, Try.ntmps5
                  go_wp2_with fail
                  refine (good_any l A c _ h hm).mono ?_
                  rintro e w1 ⟨rfl, hb1⟩
                  rw [HG.out]
                  have hz1 := hb1.size
                  go_wp2_with fail
                  refine (fit_any l A c fr long n _ (h.below hb1) hm).mono ?_
                  rintro e w2 ⟨rfl, hb2⟩
                  rw [HV.out]
                  have hz2 := hb2.size
                  go_wp2_with fail
                  have w1' := IntWalk.i64_in (-1 + long) (by omega)
                  refine (take_any l A c (-1) (-1 + long) n _ ((h.below hb1).below hb2) hm).mono ?_
                  rintro e w3 ⟨A3, c3, he, h3, hb3⟩
                  rw [HT1.out] at he
                  obtain rfl := he
                  have hz3 := hb3.size
                  have hl3 := ((h.below hb1).below hb2).below hb3
                  have hB : Below w.heap.size w w3 := hb1.trans ((hb2.mono hz1).trans (hb3.mono (by omega)))
                  clear hb1 hb2 hb3
                  go_wp2_with fail
                  go_loopw [13] (fun i wr => ∃ k : Nat, i = .int .i64 k ∧ fr ≤ (k : Int) ∧ ((k : Int) ≤ 300 - long + 1 ∨ (k : Int) = fr) ∧ Below w3.heap.size w3 wr) (fun i _ => 400 - (intOf i).toNat)
                  case atStart => exact ⟨fr.toNat, by rw [show ((fr.toNat : Nat) : Int) = fr by omega], by omega, by omega, Below.refl _ _⟩
                  case round =>
                    obtain ⟨k, rfl, hk0, hk1, hb⟩ := hrel
                    have hzb := hb.size
                    have wk := IntWalk.i64_in ((k : Int)) (by omega)
                    by_cases hlt : (k : Int) < 300 - long + 1
                    · have HT := Lib.hid (HNO.out (k : Int) (by omega))
                      go_wp2_with fail
                      refine (take_any l A c k (k + long) n _ (hl3.below hb) hm).mono ?_
                      rintro e w5 ⟨A5, c5, rfl, h5, hb5⟩
                      rw [HT.out]
                      go_wp2_with fail
                      go_roundw
                      case rel => exact ⟨k + 1, by go_num, by omega, by omega, hb.trans (hb5.mono hzb)⟩
                      case measure => simp [intOf] <;> omega
                    · go_wp2_with fail
                      refine (spansKeep_any _).mono ?_
                      rintro e w5 ⟨rfl, hb5⟩
                      go_wp2_with fail
                      go_ret
                      exact ⟨rfl, hB.trans ((hb.mono (by have := hB.size; omega)).trans (hb5.mono (by have := hB.size; omega)))⟩
                · have HG3 : (takeL l (fitL l fr long n) (fitL l fr long n + long) n).2 = true ∧ fr ≤ fitL l fr long n ∧ fitL l fr long n + long ≤ 300 ∧ ∀ t : Int, fr ≤ t → t < fitL l fr long n → (takeL l t (t + long) n).2 = false := by
                    rcases hf with ⟨g, _⟩ | ⟨g1, g2, g3⟩
                    · omega
                    · refine ⟨(fits_take hgood (by omega) ⟨by omega, by omega⟩ (by omega)).2 g2, g1, g2.1, fun t t0 t1 => ?_⟩
                      have := g3 t t0 t1
                      rw [← fits_take hgood (by omega) ⟨by omega, by omega⟩ (by omega)] at this
                      simpa using this
                  obtain ⟨g1, g2, g3, g4⟩ := HG3
                  clear hf hg hgood
                  generalize hft : fitL l fr long n = t at hv g1 g2 g3 g4
                  have HV := Lib.hid hft
                  clear hft
                  have HNO := Lib.hid g4
                  have HT1 := Lib.hid g1
                  clear g1 g4
                  go_enter Try.func5, Try.ntmps5
                  go_wp2_with fail
                  refine (good_any l A c _ h hm).mono ?_
                  rintro e w1 ⟨rfl, hb1⟩
                  rw [HG.out]
                  have hz1 := hb1.size
                  go_wp2_with fail
                  refine (fit_any l A c fr long n _ (h.below hb1) hm).mono ?_
                  rintro e w2 ⟨rfl, hb2⟩
                  have hz2 := hb2.size
                  rw [HV.out]
                  go_wp2_with fail
                  have w1' := IntWalk.i64_in (t + long) (by omega)
                  refine (take_any l A c t (t + long) n _ ((h.below hb1).below hb2) hm).mono ?_
                  rintro e w3 ⟨A3, c3, he, h3, hb3⟩
                  rw [HT1.out] at he
                  obtain rfl := he
                  have hz3 := hb3.size
                  have hl3 := ((h.below hb1).below hb2).below hb3
                  have hB : Below w.heap.size w w3 := hb1.trans ((hb2.mono hz1).trans (hb3.mono (by omega)))
                  clear hb1 hb2 hb3
                  go_wp2_with fail
                  go_loopw [13] (fun i wr => ∃ k : Nat, i = .int .i64 k ∧ fr ≤ (k : Int) ∧ ((k : Int) ≤ t ∨ (k : Int) = fr) ∧ Below w3.heap.size w3 wr) (fun i _ => 400 - (intOf i).toNat)
                  case atStart => exact ⟨fr.toNat, by rw [show ((fr.toNat : Nat) : Int) = fr by omega], by omega, by omega, Below.refl _ _⟩
                  case round =>
                    obtain ⟨k, rfl, hk0, hk1, hb⟩ := hrel
                    have hzb := hb.size
                    have wk := IntWalk.i64_in ((k : Int)) (by omega)
                    by_cases hlt : (k : Int) < t
                    · have HT := Lib.hid (HNO.out (k : Int) (by omega) (by omega))
                      go_wp2_with fail
                      refine (take_any l A c k (k + long) n _ (hl3.below hb) hm).mono ?_
                      rintro e w5 ⟨A5, c5, rfl, h5, hb5⟩
                      rw [HT.out]
                      go_wp2_with fail
                      go_roundw
                      case rel => exact ⟨k + 1, by go_num, by omega, by omega, hb.trans (hb5.mono hzb)⟩
                      case measure => simp [intOf] <;> omega
                    · go_wp2_with fail
                      refine (spansKeep_any _).mono ?_
                      rintro e w5 ⟨rfl, hb5⟩
                      go_wp2_with fail
                      go_ret
                      exact ⟨rfl, hB.trans ((hb.mono (by have := hB.size; omega)).trans (hb5.mono (by have := hB.size; omega)))⟩
  · have hg : goodB l = false := by simpa using hg
    have HG := Lib.hid hg
    clear hg
    go_enter Try.func5, Try.ntmps5
    go_wp2_with (first | (go_at_call 13; refine (good_any l A c _ h hm).mono ?_; rintro e w1 ⟨rfl, hb1⟩; rw [HG.out]) | (go_at_call 20; refine (spansKeep_any _).mono ?_; rintro e w2 ⟨rfl, hb2⟩))
    go_ret
    exact ⟨rfl, hb1.trans (hb2.mono hb1.size)⟩
end Go.Proofs.Ytifmdkcpbajdcaa

/- Walks: what is taken and given back is as it was. -/
import Derived.Test.YtifmdkcpbajdcaaSpanL2
import Derived.Test.YtifmdkcpbajdcaaSpanLawPlain
namespace Go.Proofs.Ytifmdkcpbajdcaa
open Go.RowKit Go.Proofs Plain

set_option maxHeartbeats 4000000 in
set_option maxRecDepth 100000 in
theorem spanBack_walk (l : Prof) (A : Option Addr) (c : Nat) (fr to n : Int) (w : World) (h : Sl w 2 A l.length (stepCells l)) (hm : l.length ≤ maxLen) :
    Calls Try.prog 7 #[.slice A l.length c, .int .i64 fr, .int .i64 to, .int .i64 n] w fun e w' => e = .returned (.bool true) ∧ Below w.heap.size w w' := by
  by_cases hok : (takeL l fr to n).2 = true
  · obtain ⟨hg, hback, hat⟩ := take_back hok
    obtain ⟨gl, f0, f1, f2, n0, n1⟩ := takeL_yes hok
    have HT := Lib.hid (show takeL l fr to n = ((takeL l fr to n).1, true) from Prod.ext rfl hok)
    have HGA := Lib.hid ((goodB_iff _).2 hg)
    have hla := good_len hg
    have HBK := Lib.hid hback
    have HAT := Lib.hid hat
    clear hok hg hback hat gl
    generalize (takeL l fr to n).1 = a at *
    have hma : a.length ≤ maxLen := by unfold maxLen; omega
    go_enter Try.func7, Try.ntmps7
    go_wp2_with fail
    refine (take_any l A c fr to n w h hm).mono ?_
    rintro e w1 ⟨A1, c1, he, h1, hb1⟩
    rw [HT.out] at he h1
    subst he
    have hz1 := hb1.size
    go_wp2_with fail
    refine (give_any a A1 c1 fr to n w1 h1 hma).mono ?_
    rintro e w2 ⟨A2, c2, he, h2, hb2⟩
    rw [HBK.out] at he h2
    subst he
    have hz2 := hb2.size
    have hl2 := (h.below hb1).below hb2
    have ha2 := h1.below hb2
    go_wp2_with fail
    refine (good_any a A1 c1 w2 ha2 hma).mono ?_
    rintro e w3 ⟨rfl, hb3⟩
    rw [HGA.out]
    have hz3 := hb3.size
    go_wp2_with fail
    refine (sameKeep_any l l A2 A c2 c w3 (h2.below hb3) (hl2.below hb3) hm hm).mono ?_
    rintro e w4 ⟨rfl, hb4⟩
    rw [show decide (l = l) = true by simp]
    have hz4 := hb4.size
    have hB : Below w.heap.size w w4 := hb1.trans ((hb2.mono hz1).trans ((hb3.mono (by omega)).trans (hb4.mono (by omega))))
    have hl4 := (hl2.below hb3).below hb4
    have ha4 := (ha2.below hb3).below hb4
    clear hb1 hb2 hb3 hb4 hl2 ha2 h1 h2 h
    go_wp2_with fail
    go_loopw [52] (fun i wr => ∃ k : Nat, k ≤ 300 ∧ i = .int .i64 k ∧ Below w4.heap.size w4 wr) (fun i _ => 300 - (intOf i).toNat)
    case atStart => exact ⟨0, by omega, rfl, Below.refl _ _⟩
    case round =>
      obtain ⟨k, hk, rfl, hb⟩ := hrel
      by_cases hlt : k < 300
      · obtain ⟨e1, p0, p1, p2, p3⟩ := HAT.out (k : Int) (by omega) (by omega)
        have hzb := hb.size
        have ha5 := ha4.below hb
        have hl5 := hl4.below hb
        have HE := Lib.hid e1
        clear e1
        by_cases q1 : fr ≤ (k : Int)
        · by_cases q2 : (k : Int) < to
          · have HN := Lib.hid (show (atL a k != atL l k - n) = false by rw [HE.out, if_pos ⟨q1, q2⟩]; simp)
            go_wp2_with fail
            refine (at_any a A1 c1 k _ ha5 hma).mono ?_
            rintro e w5 ⟨rfl, hb5⟩
            go_wp2_with fail
            refine (at_any l A c k _ (hl5.below hb5) hm).mono ?_
            rintro e w6 ⟨rfl, hb6⟩
            have HN' := HN.out
            have hz5 := hb5.size
            go_wp2_with fail
            go_roundw
            case rel => exact ⟨k + 1, by omega, by go_num, hb.trans ((hb5.mono hzb).trans (hb6.mono (by omega)))⟩
            case measure => simp [intOf] <;> omega
          · have HN := Lib.hid (show (atL a k != atL l k) = false by rw [HE.out, if_neg (fun h => q2 h.2)]; simp)
            go_wp2_with fail
            refine (at_any a A1 c1 k _ ha5 hma).mono ?_
            rintro e w5 ⟨rfl, hb5⟩
            go_wp2_with fail
            refine (at_any l A c k _ (hl5.below hb5) hm).mono ?_
            rintro e w6 ⟨rfl, hb6⟩
            have HN' := HN.out
            have hz5 := hb5.size
            go_wp2_with fail
            go_roundw
            case rel => exact ⟨k + 1, by omega, by go_num, hb.trans ((hb5.mono hzb).trans (hb6.mono (by omega)))⟩
            case measure => simp [intOf] <;> omega
        · have HN := Lib.hid (show (atL a k != atL l k) = false by rw [HE.out, if_neg (fun h => q1 h.1)]; simp)
          go_wp2_with fail
          refine (at_any a A1 c1 k _ ha5 hma).mono ?_
          rintro e w5 ⟨rfl, hb5⟩
          go_wp2_with fail
          refine (at_any l A c k _ (hl5.below hb5) hm).mono ?_
          rintro e w6 ⟨rfl, hb6⟩
          have HN' := HN.out
          have hz5 := hb5.size
          go_wp2_with fail
          go_roundw
          case rel => exact ⟨k + 1, by omega, by go_num, hb.trans ((hb5.mono hzb).trans (hb6.mono (by omega)))⟩
          case measure => simp [intOf] <;> omega
      · obtain rfl : k = 300 := by omega
        go_wp2_with fail
        refine (spansKeep_any _).mono ?_
        rintro e w5 ⟨rfl, hb5⟩
        have hzb := hb.size
        go_wp2_with fail
        go_ret
        exact ⟨rfl, hB.trans ((hb.mono (by have := hB.size; omega)).trans (hb5.mono (by have := hB.size; omega)))⟩
  · have hok' : (takeL l fr to n).2 = false := by simpa using hok
    have HT := Lib.hid (takeL_no hok')
    clear hok hok'
    go_enter Try.func7, Try.ntmps7
    go_wp2_with fail
    refine (take_any l A c fr to n w h hm).mono ?_
    rintro e w1 ⟨A1, c1, he, h1, hb1⟩
    rw [HT.out] at he h1
    subst he
    have hz1 := hb1.size
    go_wp2_with fail
    refine (sameKeep_any l l A1 A c1 c w1 h1 (h.below hb1) hm hm).mono ?_
    rintro e w4 ⟨rfl, hb4⟩
    rw [show decide (l = l) = true by simp]
    have hz4 := hb4.size
    go_wp2_with fail
    refine (spansKeep_any _).mono ?_
    rintro e w5 ⟨rfl, hb5⟩
    go_wp2_with fail
    go_ret
    exact ⟨rfl, hb1.trans ((hb4.mono hz1).trans (hb5.mono (by omega)))⟩
end Go.Proofs.Ytifmdkcpbajdcaa

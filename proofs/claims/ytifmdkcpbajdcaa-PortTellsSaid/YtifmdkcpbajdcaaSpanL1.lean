/- Walks: two profiles held against each other; does span answer at all? -/
import Derived.Test.YtifmdkcpbajdcaaSpanW9
import Derived.Test.YtifmdkcpbajdcaaSpanAG
namespace Go.Proofs.Ytifmdkcpbajdcaa
open Go.RowKit Go.Proofs Plain

set_option maxHeartbeats 4000000 in
theorem sameKeep_any (l m : Prof) (A B : Option Addr) (c d : Nat) (w : World) (h : Sl w 2 A l.length (stepCells l)) (h' : Sl w 2 B m.length (stepCells m)) (hl : l.length ≤ maxLen) (hm : m.length ≤ maxLen) :
    Calls Try.prog 25 #[.slice A l.length c, .slice B m.length d] w fun e w' => e = .returned (.bool (decide (l = m))) ∧ Below w.heap.size w w' := by
  unfold maxLen at hl hm
  by_cases hlen : l.length = m.length
  · have HL := Lib.hid hlen
    have hne : ((l.length : Int) != (m.length : Int)) = false := by rw [hlen]; simp
    have hb1 : l.length ≤ m.length := by omega
    clear hlen
    go_enter Try.func25, Try.ntmps25
    go_wp2_with fail
    go_loopw [13] (fun i wr => ∃ k : Nat, k ≤ l.length ∧ i = .int .i64 k ∧ (∀ j, j < k → l.getD j (0, 0) = m.getD j (0, 0)) ∧ Below w.heap.size w wr) (fun i _ => l.length - (intOf i).toNat)
    case atStart => exact ⟨0, Nat.zero_le _, rfl, fun j hj => absurd hj (by omega), Below.refl _ _⟩
    case round =>
      obtain ⟨k, hk, rfl, hok, hb⟩ := hrel
      by_cases hlt : k < l.length
      · have hlt2 : k < m.length := by omega
        obtain ⟨b, off, rfl, hbl, hcells⟩ := steps_at (h.below hb) (by omega)
        obtain ⟨b', off', rfl, hbl', hcells'⟩ := steps_at (h'.below hb) (by omega)
        obtain ⟨c1, c2⟩ := hcells k hlt
        obtain ⟨c3, c4⟩ := hcells' k hlt2
        have HOK := Lib.hid (show l.getD k (0, 0) = m.getD k (0, 0) → ∀ j, j < k + 1 → l.getD j (0, 0) = m.getD j (0, 0) from fun e j hj => by
          by_cases ej : j = k
          · rw [ej]; exact e
          · exact hok j (by omega))
        have HNO := Lib.hid (show l.getD k (0, 0) ≠ m.getD k (0, 0) → ¬ l = m from fun e h => e (by rw [h]))
        clear hcells hcells' hok h h'
        generalize l.getD k (0, 0) = p at *
        generalize m.getD k (0, 0) = q at *
        obtain ⟨x, y⟩ := p
        obtain ⟨x', y'⟩ := q
        dsimp only at c1 c2 c3 c4
        by_cases e1 : x = x'
        · by_cases e2 : y = y'
          · subst e1; subst e2
            have HO := Lib.hid (HOK.out rfl)
            clear HOK HNO
            go_wp2_with fail
            go_quiet (fail)
            go_wp2_with fail
            go_roundw
            case rel => exact ⟨k + 1, hlt, by go_num, HO.out, below_drewN hb _⟩
            case measure => simp [intOf] <;> omega
          · have HN := Lib.hid (HNO.out (by simp [e2]))
            have b2 : (y == y') = false := by simpa using e2
            have b3 : (y != y') = true := by simpa using e2
            subst e1
            clear HOK HNO e2
            go_wp2_with fail
            go_quiet (fail)
            go_wp2_with fail
            go_ret
            exact ⟨ret_bool (by simp [HN.out]), below_drewN hb _⟩
        · have HN := Lib.hid (HNO.out (by simp [e1]))
          have b2 : (x == x') = false := by simpa using e1
          have b3 : (x != x') = true := by simpa using e1
          clear HOK HNO e1
          go_wp2_with fail
          go_quiet (fail)
          go_wp2_with fail
          go_ret
          exact ⟨ret_bool (by simp [HN.out]), below_drewN hb _⟩
      · obtain rfl : k = l.length := by omega
        have HE := Lib.hid (show l = m from List.ext_getElem HL.out fun i h1 h2 => by
          have := hok i h1
          rw [List.getD_eq_getElem?_getD, List.getD_eq_getElem?_getD, List.getElem?_eq_getElem h1, List.getElem?_eq_getElem h2] at this
          exact this)
        clear hok
        go_wp2_with fail
        go_ret
        exact ⟨ret_bool (by simp [HE.out]), hb⟩
  · have HN := Lib.hid (show ¬ l = m from fun h => hlen (by rw [h]))
    have hne : ((l.length : Int) != (m.length : Int)) = true := by simp; omega
    clear hlen
    go_enter Try.func25, Try.ntmps25
    go_wp2_with fail
    go_ret
    exact ⟨ret_bool (by simp [HN.out]), Below.refl _ _⟩


set_option maxHeartbeats 4000000 in
theorem sameRef_any (l m : Prof) (A B : Option Addr) (c d : Nat) (w : World) (h : Sl w 2 A l.length (stepCells l)) (h' : Sl w 2 B m.length (stepCells m)) (hl : l.length ≤ maxLen) (hm : m.length ≤ maxLen) :
    Calls Try.prog 14 #[.slice A l.length c, .slice B m.length d] w fun e w' => e = .returned (.bool (decide (l = m))) ∧ Below w.heap.size w w' := by
  unfold maxLen at hl hm
  by_cases hlen : l.length = m.length
  · have HL := Lib.hid hlen
    have hne : ((l.length : Int) != (m.length : Int)) = false := by rw [hlen]; simp
    have hb1 : l.length ≤ m.length := by omega
    clear hlen
    go_enter Try.func14, Try.ntmps14
    go_wp2_with fail
    go_loopw [13] (fun i wr => ∃ k : Nat, k ≤ l.length ∧ i = .int .i64 k ∧ (∀ j, j < k → l.getD j (0, 0) = m.getD j (0, 0)) ∧ Below w.heap.size w wr) (fun i _ => l.length - (intOf i).toNat)
    case atStart => exact ⟨0, Nat.zero_le _, rfl, fun j hj => absurd hj (by omega), Below.refl _ _⟩
    case round =>
      obtain ⟨k, hk, rfl, hok, hb⟩ := hrel
      by_cases hlt : k < l.length
      · have hlt2 : k < m.length := by omega
        obtain ⟨b, off, rfl, hbl, hcells⟩ := steps_at (h.below hb) (by omega)
        obtain ⟨b', off', rfl, hbl', hcells'⟩ := steps_at (h'.below hb) (by omega)
        obtain ⟨c1, c2⟩ := hcells k hlt
        obtain ⟨c3, c4⟩ := hcells' k hlt2
        have HOK := Lib.hid (show l.getD k (0, 0) = m.getD k (0, 0) → ∀ j, j < k + 1 → l.getD j (0, 0) = m.getD j (0, 0) from fun e j hj => by
          by_cases ej : j = k
          · rw [ej]; exact e
          · exact hok j (by omega))
        have HNO := Lib.hid (show l.getD k (0, 0) ≠ m.getD k (0, 0) → ¬ l = m from fun e h => e (by rw [h]))
        clear hcells hcells' hok h h'
        generalize l.getD k (0, 0) = p at *
        generalize m.getD k (0, 0) = q at *
        obtain ⟨x, y⟩ := p
        obtain ⟨x', y'⟩ := q
        dsimp only at c1 c2 c3 c4
        by_cases e1 : x = x'
        · by_cases e2 : y = y'
          · subst e1; subst e2
            have HO := Lib.hid (HOK.out rfl)
            clear HOK HNO
            go_wp2_with fail
            go_quiet (fail)
            go_wp2_with fail
            go_roundw
            case rel => exact ⟨k + 1, hlt, by go_num, HO.out, below_drewN hb _⟩
            case measure => simp [intOf] <;> omega
          · have HN := Lib.hid (HNO.out (by simp [e2]))
            have b2 : (y == y') = false := by simpa using e2
            have b3 : (y != y') = true := by simpa using e2
            subst e1
            clear HOK HNO e2
            go_wp2_with fail
            go_quiet (fail)
            go_wp2_with fail
            go_ret
            exact ⟨ret_bool (by simp [HN.out]), below_drewN hb _⟩
        · have HN := Lib.hid (HNO.out (by simp [e1]))
          have b2 : (x == x') = false := by simpa using e1
          have b3 : (x != x') = true := by simpa using e1
          clear HOK HNO e1
          go_wp2_with fail
          go_quiet (fail)
          go_wp2_with fail
          go_ret
          exact ⟨ret_bool (by simp [HN.out]), below_drewN hb _⟩
      · obtain rfl : k = l.length := by omega
        have HE := Lib.hid (show l = m from List.ext_getElem HL.out fun i h1 h2 => by
          have := hok i h1
          rw [List.getD_eq_getElem?_getD, List.getD_eq_getElem?_getD, List.getElem?_eq_getElem h1, List.getElem?_eq_getElem h2] at this
          exact this)
        clear hok
        go_wp2_with fail
        go_ret
        exact ⟨ret_bool (by simp [HE.out]), hb⟩
  · have HN := Lib.hid (show ¬ l = m from fun h => hlen (by rw [h]))
    have hne : ((l.length : Int) != (m.length : Int)) = true := by simp; omega
    clear hlen
    go_enter Try.func14, Try.ntmps14
    go_wp2_with fail
    go_ret
    exact ⟨ret_bool (by simp [HN.out]), Below.refl _ _⟩

end Go.Proofs.Ytifmdkcpbajdcaa

/- Walks: how many are free at a time. -/
import Derived.Test.YtifmdkcpbajdcaaSpanW1
import Derived.Test.YtifmdkcpbajdcaaSpanW9
namespace Go.Proofs.Ytifmdkcpbajdcaa
open Go.RowKit Plain

set_option maxHeartbeats 400000 in
theorem at_any (l : Prof) (A : Option Addr) (c : Nat) (t : Int) (w : World) (h : Sl w 2 A l.length (stepCells l)) (hm : l.length ≤ maxLen) :
    Calls Try.prog 18 #[.slice A l.length c, .int .i64 t] w fun e w' => e = .returned (.int .i64 (atL l t)) ∧ Below w.heap.size w w' := by
  unfold maxLen at hm
  go_enter Try.func18, Try.ntmps18
  go_wp2_with fail
  go_loopw [5, 10] (fun n i wr => ∃ k : Nat, k ≤ l.length ∧ i = .int .i64 k ∧ n = .int .i64 (atTo l t k) ∧ Below w.heap.size w wr) (fun _ i _ => l.length - (intOf i).toNat)
  case atStart => exact ⟨0, Nat.zero_le _, rfl, rfl, Below.refl _ _⟩
  case round =>
    obtain ⟨k, hk, rfl, rfl, hb⟩ := hrel
    by_cases hlt : k < l.length
    · have hsl := h.below hb
      obtain ⟨b, off, rfl, hbl, hcells⟩ := steps_at hsl (by omega)
      obtain ⟨c1, c2⟩ := hcells k hlt
      have HS := Lib.hid (atTo_succ l t k hlt)
      clear hcells hsl h
      generalize (l.getD k (0, 0)).1 = x at c1 HS
      generalize (l.getD k (0, 0)).2 = y at c2 HS
      go_wp2_with fail
      all_goals
        go_roundw
        case rel => exact ⟨k + 1, hlt, by go_num, by rw [HS.out]; first | rw [if_pos (by omega)] | rw [if_neg (by omega)], hb.alloc hb.size _⟩
        case measure => simp [intOf]; omega
    · obtain rfl : k = l.length := by omega
      go_wp2_with fail
      go_ret
      exact ⟨by rw [atTo, List.take_length]; rfl, hb⟩

end Go.Proofs.Ytifmdkcpbajdcaa

/- Walks: Give. -/
namespace Go.Proofs.Ytifmdkcpbajdcaa
open Go.RowKit Go.Proofs Plain

set_option maxHeartbeats 400000 in
theorem give_any (l : Prof) (A : Option Addr) (c : Nat) (fr to n : Int) (w : World) (h : Sl w 2 A l.length (stepCells l)) (hm : l.length ≤ maxLen) :
    Calls Try.prog 22 #[.slice A l.length c, .int .i64 fr, .int .i64 to, .int .i64 n] w (RetPair (giveL l fr to n) w) := by
  by_cases hn : 0 ≤ n ∧ n ≤ 16
  · have HF := Lib.hid (show giveL l fr to n = addL l fr to n by unfold giveL; rw [if_pos hn])
    obtain ⟨n1, n2⟩ := hn
    have HB := Lib.hid (show (decide (0 ≤ n) && decide (n ≤ 16)) = true by simp; omega)
    go_enter Try.func22, Try.ntmps22
    go_wp2_with (first
      | (go_at_call 44; refine (small_any n _).mono ?_; rintro e w1 ⟨rfl, rfl⟩; rw [HB.out])
      | (go_at_call 45; refine (add_any l A c fr to n _ h hm ⟨by omega, by omega⟩).mono ?_; rintro e w1 ⟨A1, c1, rfl, h1, h2, _⟩))
    go_ret2
    exact ⟨A1, c1, by rw [HF.out]; rfl, by rw [HF.out]; exact h1, h2⟩
  · have HF := Lib.hid (show giveL l fr to n = (l, false) by unfold giveL; rw [if_neg hn])
    have HB := Lib.hid (show (decide (0 ≤ n) && decide (n ≤ 16)) = false by rw [Bool.and_eq_false_iff]; simp; omega)
    clear hn
    go_enter Try.func22, Try.ntmps22
    go_wp2_with (go_at_call 44; refine (small_any n _).mono ?_; rintro e w1 ⟨rfl, rfl⟩; rw [HB.out])
    go_ret2
    exact ⟨A, c, by rw [HF.out]; rfl, by rw [HF.out]; exact h, Below.refl _ _⟩

end Go.Proofs.Ytifmdkcpbajdcaa

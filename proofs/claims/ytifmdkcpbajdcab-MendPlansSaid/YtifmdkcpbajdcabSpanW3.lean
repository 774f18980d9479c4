/- Walks: the place of a time in a profile. -/
import Derived.Test.YtifmdkcpbajdcabSpanW2
namespace Go.Proofs.Ytifmdkcpbajdcab
open Go.RowKit Plain

set_option maxHeartbeats 2000000 in
theorem search_any (l : Prof) (b off c : Nat) (t : Int) (w : World) (h : Sl w 2 (some ⟨b, off, none⟩) l.length (stepCells l)) (hr : Rises l) (hm : l.length ≤ 1000) (ht : 0 ≤ t ∧ t ≤ 300) :
    Calls Try.prog 80 #[.slice (some ⟨b, off, none⟩) l.length c, .int .i64 t, .func (.func 81) #[] #[]] w fun e w' =>
      e = .returned (.tuple #[.int .i64 (cnt l t), .bool (hasAt l t)]) ∧ Below w.heap.size w w' := by
  go_enter Try.func80, Try.ntmps80
  go_wp2_with fail
  go_loopw [9, 10] (fun i j wr => ∃ a z : Nat, a ≤ z ∧ z ≤ l.length ∧ i = .int .i64 a ∧ j = .int .i64 z ∧ (∀ k, k < a → (l.getD k (0, 0)).1 < t) ∧ (z < l.length → t ≤ (l.getD z (0, 0)).1) ∧ Below w.heap.size w wr) (fun i j _ => (intOf j - intOf i).toNat)
  case atStart => exact ⟨0, l.length, Nat.zero_le _, Nat.le_refl _, rfl, rfl, fun k hk => absurd hk (by omega), fun hh => absurd hh (by omega), Below.refl _ _⟩
  case round =>
    obtain ⟨a, z, haz, hz, rfl, rfl, h1, h2, hb⟩ := hrel
    by_cases hlt : a < z
    · have hsl := h.below hb
      obtain ⟨b', off', e, hbl, hcells⟩ := steps_at hsl (by omega)
      injection e with e
      injection e with e1 e2
      subst e1; subst e2
      obtain ⟨c1, c2⟩ := hcells ((a + z) / 2) (by omega)
      have hx := hr.bd ((a + z) / 2) (by omega)
      have HLT := Lib.hid (hr.lt)
      have H1 := Lib.hid h1
      have H2 := Lib.hid h2
      clear h1 h2 hcells hsl h hr
      have HX := Lib.hid (rfl : (l.getD ((a + z) / 2) (0, 0)).1 = (l.getD ((a + z) / 2) (0, 0)).1)
      generalize hxx : (l.getD ((a + z) / 2) (0, 0)).1 = x at c1 hx HX
      have HXX := Lib.hid hxx
      clear hxx HX
      generalize (l.getD ((a + z) / 2) (0, 0)).2 = y at c2
      obtain ⟨t0, t1⟩ := ht
      obtain ⟨x0, x1⟩ := hx
      by_cases hc : x - t < 0
      all_goals
        go_wp2_with (go_at_call 81; refine (cmpAt_any x y t _ ⟨x0, by omega⟩ ⟨t0, t1⟩).mono ?_; rintro e w1 ⟨rfl, hb1⟩)
        go_roundw
      case rel =>
        refine ⟨(a + z) / 2 + 1, z, by omega, hz, by go_num, rfl, fun k hk => ?_, H2.out, hb.trans (hb1.mono hb.size)⟩
        by_cases e : k = (a + z) / 2
        · subst e; rw [HXX.out]; omega
        · have := HLT.out k ((a + z) / 2) (by omega) (by omega)
          rw [HXX.out] at this; omega
      case measure => simp [intOf]; omega
      case rel => exact ⟨a, (a + z) / 2, by omega, by omega, rfl, by go_num, H1.out, fun _ => by rw [HXX.out]; omega, hb.trans (hb1.mono hb.size)⟩
      case measure => simp [intOf]; omega
    · obtain rfl : a = z := by omega
      have HC := Lib.hid (cnt_eq t l a hz h1 h2)
      have HH := Lib.hid (hasAt_eq hr h1 h2)
      by_cases hn : a < l.length
      · have hsl := h.below hb
        obtain ⟨b', off', e, hbl, hcells⟩ := steps_at hsl (by omega)
        injection e with e
        injection e with e1 e2
        subst e1; subst e2
        obtain ⟨c1, c2⟩ := hcells a hn
        have hx := hr.bd a hn
        clear hcells hsl h h1 h2 hr
        generalize (l.getD a (0, 0)).1 = x at c1 hx HH
        generalize (l.getD a (0, 0)).2 = y at c2
        obtain ⟨t0, t1⟩ := ht
        obtain ⟨x0, x1⟩ := hx
        go_wp2_with (go_at_call 81; refine (cmpAt_any x y t _ ⟨x0, by omega⟩ ⟨t0, t1⟩).mono ?_; rintro e w1 ⟨rfl, hb1⟩)
        go_ret2
        refine ⟨?_, hb.trans (hb1.mono hb.size)⟩
        have hq : (x - t == 0) = decide (x = t) := by rw [Bool.eq_iff_iff]; simp; omega
        rw [HC.out, HH.out]
        simp [hn, hq]
      · have hd : decide ((a : Int) < (l.length : Int)) = false := by simpa using hn
        clear h1 h2 hr h
        go_wp2_with fail
        go_ret2
        exact ⟨by rw [HC.out, HH.out]; simp [hn], hb⟩
end Go.Proofs.Ytifmdkcpbajdcab

/- Walks: the document's answers: a port copied, numbers held against each other, a ship. -/
import Derived.Test.YtifmdkcpbajdcabTellW
import Derived.Test.YtifmdkcpbajdcabRefW
import Derived.Test.YtifmdkcpbajdcabKeptEq
import Derived.Deep.DeepCutAuto
import Derived.BigQuiet
namespace Go.Proofs.Ytifmdkcpbajdcab
open Go.RowKit Go.Proofs Plain

theorem ne_facts' {x k : Int} (h : x ≠ k) : (x == k) = false ∧ (x != k) = true ∧ decide (x = k) = false := by
  refine ⟨by simpa using h, by simpa using h, by simpa using h⟩
theorem getD_ext' {l m : List Int} (hl : l.length = m.length) (h : ∀ i, i < l.length → l.getD i 0 = m.getD i 0) : l = m := by
  apply List.ext_getElem hl
  intro i h1 h2
  have := h i h1
  simpa [List.getD_eq_getElem?_getD, h1, h2] using this

set_option maxRecDepth 100000 in
set_option maxHeartbeats 8000000 in
theorem copyP_any (p : Port) (A : Option Addr) (c : Nat) (w : World) (hin : InP w p A) (hm : p.ships.length ≤ maxLen) (hm2 : p.ships.length * 48 ≤ 140737488355328) :
    Calls Try.prog 16 #[.agg (portA p A c)] w (RetOwnP p w) := by
  obtain ⟨i0, hi0, hz0, hz1, hz2⟩ := info_parts ship_info
  have hP0 : PortAt ((w.alloc (.cells (portA p A c) 27)).alloc (.cells (portA Port.zero none 0) 27)) w.heap.size p A c := (PortAt.new w p A c).alloc _
  have hZ0 : PortAt ((w.alloc (.cells (portA p A c) 27)).alloc (.cells (portA Port.zero none 0) 27)) (w.heap.size + 1) Port.zero none 0 := by
    have := PortAt.new (w.alloc (.cells (portA p A c) 27)) Port.zero none 0
    simpa using this
  have hB0 : Below w.heap.size w ((w.alloc (.cells (portA p A c) 27)).alloc (.cells (portA Port.zero none 0) 27)) := ((Below.refl _ _).alloc (Nat.le_refl _) _).alloc (by simp) _
  have hS0 : Sl ((w.alloc (.cells (portA p A c) 27)).alloc (.cells (portA Port.zero none 0) 27)) 6 A p.ships.length (shipCells p.ships) := (Sl.alloc hin _).alloc _
  have q1 := hP0.ships
  have hlt := hP0.lt
  simp only [portA]
  go_enter Try.func16, Try.ntmps16
  go_wp2_with (first
    | (at_builtin; refine wpList_append_copy rfl _ _ 22 rfl (w.heap.size + 2) 38 i0 _ 6 48 Try.underlying22 hi0 hz0 hz1 hz2 rfl (by decide) rfl A p.ships.length c (shipCells p.ships) rfl hS0 (ship_one _) hm hm2 (by simp) ?_; intro v' w2 ho2 hb2; obtain ⟨A2, c2, rfl⟩ := own_form ho2; have hP2 := PortAt.below hP0 hb2 (by simp <;> omega); have hx1 := hP2.frozen 1; have hx2 := hP2.ships; have hZ2 := PortAt.below hZ0 hb2 (by simp <;> omega); have hB2 := below_go hB0 hb2; have hP3 : PortAt (w2.setCell ⟨w.heap.size, 1, none⟩ (.slice A2 p.ships.length c2)) w.heap.size p A2 c2 := hP2.put 1 _ p A2 c2 rfl; have hZ3 := hZ2.beside ⟨w.heap.size, 1, none⟩ (.slice A2 p.ships.length c2) (by simp); have hB3 := hB2.setCell (p := ⟨w.heap.size, 1, none⟩) (Nat.le_refl _) (.slice A2 p.ships.length c2); have ho3 := own_one ho2 (OneRow.of_cell w2 ⟨w.heap.size, 1, none⟩ (.slice A2 p.ships.length c2)) (by simp <;> omega))
    | (refine wpList_load_port rfl rfl (by first | rfl | simp [Act.eval, Act.put]) hP3 ?_)
    | (refine wpList_store_port rfl rfl (by first | rfl | simp [Act.eval, Act.put]) (by first | rfl | simp [Act.eval, Act.put]) hZ3 ?_; intro w4 hZ4 hr4))
  refine bodyPost_ret (results_port rfl _ _ (w.heap.size + 1) rfl hZ4) rfl ?_
  exact ⟨A2, c2, rfl, own_weak (own_one ho3 hr4 (by omega)) (by omega), hB3.trans (hr4.below (by omega))⟩

set_option maxRecDepth 100000 in
set_option maxHeartbeats 8000000 in
theorem sameInts_any (l m : List Int) (A B : Option Addr) (c d : Nat) (w : World) (h1 : Sl w 1 A l.length (l.map (Value.int .i64))) (h2 : Sl w 1 B m.length (m.map (Value.int .i64))) (hl : l.length ≤ 100000) (hm : m.length ≤ 100000) :
    Calls Try.prog 18 #[.slice A l.length c, .slice B m.length d] w fun e w' => e = .returned (.bool (decide (l = m))) ∧ Below w.heap.size w w' := by
  by_cases hlen : l.length = m.length
  · have HLN := Lib.hid hlen
    rw [← hlen] at h2 ⊢
    clear hlen
    have t0 : (((l.length : Nat) : Int) != (l.length : Int)) = false := by simp
    go_enter Try.func18, Try.ntmps18
    go_wp2_with fail
    go_loopw [13] (fun i wr => ∃ k n : Nat, k ≤ l.length ∧ i = .int .i64 k ∧ wr = w.drewN n ∧ ∀ j, j < k → l.getD j 0 = m.getD j 0) (fun i _ => l.length - (intOf i).toNat)
    case atStart => exact ⟨0, 0, Nat.zero_le _, rfl, rfl, fun j hj => absurd hj (by omega)⟩
    case round =>
      obtain ⟨k, n, hk, rfl, rfl, hall⟩ := hrel
      have HAL := Lib.hid hall
      clear hall
      by_cases hlt : k < l.length
      · obtain ⟨b3, off3, hA3, hbl3, hc3⟩ := ints_at h1 (by omega)
        subst hA3
        have e3 := hc3 k hlt
        obtain ⟨b5, off5, hA5, hbl5, hc5⟩ := ints_at (l := m) (by rw [← HLN.out]; exact h2) (by rw [← HLN.out]; omega)
        subst hA5
        have e5 := hc5 k (by rw [← HLN.out]; exact hlt)
        clear hc3 hc5
        by_cases he : l.getD k 0 = m.getD k 0
        · have HNX := Lib.hid (show ∀ j, j < k + 1 → l.getD j 0 = m.getD j 0 from fun j hj => by
            rcases (by omega : j < k ∨ j = k) with h | rfl
            · exact HAL.out j h
            · exact he)
          rw [← he] at e5
          clear he
          generalize l.getD k 0 = t at *
          have t2 : (t != t) = false := by simp
          go_wp2_with fail
          go_quiet (fail)
          go_wp2_with fail
          go_roundw
          case rel => exact ⟨k + 1, n + nq, by omega, by go_num, by first | trivial | rw [World.drewN_drewN], HNX.out⟩
          case measure => simp [intOf] <;> omega
        · have HNO := Lib.hid (show decide (l = m) = false by simp only [decide_eq_false_iff_not]; rintro rfl; exact he rfl)
          generalize l.getD k 0 = t at *
          generalize m.getD k 0 = u at *
          obtain ⟨a1, a2, a3⟩ := ne_facts' he
          go_wp2_with fail
          go_quiet (fail)
          go_wp2_with fail
          go_ret
          exact ⟨ret_bool HNO.out.symm, below_drewN (below_drewN (Below.refl _ _) _) _⟩
      · obtain rfl : k = l.length := by omega
        have HYES := Lib.hid (show decide (l = m) = true by simp only [decide_eq_true_eq]; exact getD_ext' HLN.out HAL.out)
        go_wp2_with fail
        go_ret
        exact ⟨ret_bool HYES.out.symm, below_drewN (Below.refl _ _) _⟩
  · have HNO := Lib.hid (show decide (l = m) = false by simp only [decide_eq_false_iff_not]; rintro rfl; exact hlen rfl)
    have t0 : (((l.length : Nat) : Int) != (m.length : Int)) = true := by simp; omega
    go_enter Try.func18, Try.ntmps18
    go_wp2_with fail
    go_ret
    exact ⟨ret_bool HNO.out.symm, Below.refl _ _⟩
end Go.Proofs.Ytifmdkcpbajdcab

/- Walks: do two desks stand alike. -/
import Derived.Test.YtifmdkcpbajdcabGreatDoorDeskOp
import Derived.Deep.DeepCutAuto
import Derived.BigQuiet
import Derived.ChangeKeysEq
set_option linter.unusedVariables false
set_option linter.unusedSimpArgs false
namespace Go.Proofs.YtifmdkcpbajdcabGreatDoor
open Go.RowKit Go.Proofs Plain

theorem ne_factsT {x k : Int} (h : x ≠ k) : (x == k) = false ∧ (x != k) = true ∧ decide (x = k) = false := by
  refine ⟨by simpa using h, by simpa using h, by simpa using h⟩
theorem getD_extT {l m : List Int} (hl : l.length = m.length) (h : ∀ i, i < l.length → l.getD i 0 = m.getD i 0) : l = m := by
  apply List.ext_getElem hl
  intro i h1 h2
  have := h i h1
  simpa [List.getD_eq_getElem?_getD, h1, h2] using this

set_option maxRecDepth 100000 in
set_option maxHeartbeats 8000000 in
theorem sameIntsT_any (l m : List Int) (A B : Option Addr) (c d : Nat) (w : World) (h1 : Sl w 1 A l.length (l.map (Value.int .i64))) (h2 : Sl w 1 B m.length (m.map (Value.int .i64))) (hl : l.length ≤ 100000) (hm : m.length ≤ 100000) :
    Calls Tryz.prog 16 #[.slice A l.length c, .slice B m.length d] w fun e w' => e = .returned (.bool (decide (l = m))) ∧ Below w.heap.size w w' := by
  by_cases hlen : l.length = m.length
  · have HLN := Lib.hid hlen
    rw [← hlen] at h2 ⊢
    clear hlen
    have t0 : (((l.length : Nat) : Int) != (l.length : Int)) = false := by simp
    go_enter Tryz.func16, Tryz.ntmps16
    go_wp2_with fail
    go_loopw [13] (fun i wr => ∃ k n : Nat, k ≤ l.length ∧ i = .int .i64 k ∧ wr = w.drewN n ∧ ∀ j, j < k → l.getD j 0 = m.getD j 0) (fun i _ => l.length - (intOf i).toNat)
    case atStart => exact ⟨0, 0, Nat.zero_le _, rfl, rfl, fun j hj => absurd hj (by omega)⟩
    case round =>
      obtain ⟨k, n, hk, rfl, rfl, hall⟩ := hrel
      have HAL := Lib.hid hall
      clear hall
      by_cases hlt : k < l.length
      · obtain ⟨b3, off3, hA3, hbl3, hc3⟩ := ints_at h1 (by omega)
        subst hA3
        have e3 := hc3 k hlt
        obtain ⟨b5, off5, hA5, hbl5, hc5⟩ := ints_at (l := m) (by rw [← HLN.out]; exact h2) (by rw [← HLN.out]; omega)
        subst hA5
        have e5 := hc5 k (by rw [← HLN.out]; exact hlt)
        clear hc3 hc5
        by_cases he : l.getD k 0 = m.getD k 0
        · have HNX := Lib.hid (show ∀ j, j < k + 1 → l.getD j 0 = m.getD j 0 from fun j hj => by
            rcases (by omega : j < k ∨ j = k) with h | rfl
            · exact HAL.out j h
            · exact he)
          rw [← he] at e5
          clear he
          generalize l.getD k 0 = t at *
          have t2 : (t != t) = false := by simp
          go_wp2_with fail
          go_quiet (fail)
          go_wp2_with fail
          go_roundw
          case rel => exact ⟨k + 1, n + nq, by omega, by go_num, by first | trivial | rw [World.drewN_drewN], HNX.out⟩
          case measure => simp [intOf] <;> omega
        · have HNO := Lib.hid (show decide (l = m) = false by simp only [decide_eq_false_iff_not]; rintro rfl; exact he rfl)
          generalize l.getD k 0 = t at *
          generalize m.getD k 0 = u at *
          obtain ⟨a1, a2, a3⟩ := ne_factsT he
          go_wp2_with fail
          go_quiet (fail)
          go_wp2_with fail
          go_ret
          exact ⟨ret_bool HNO.out.symm, below_drewN (below_drewN (Below.refl _ _) _) _⟩
      · obtain rfl : k = l.length := by omega
        have HYES := Lib.hid (show decide (l = m) = true by simp only [decide_eq_true_eq]; exact getD_extT HLN.out HAL.out)
        go_wp2_with fail
        go_ret
        exact ⟨ret_bool HYES.out.symm, below_drewN (Below.refl _ _) _⟩
  · have HNO := Lib.hid (show decide (l = m) = false by simp only [decide_eq_false_iff_not]; rintro rfl; exact hlen rfl)
    have t0 : (((l.length : Nat) : Int) != (m.length : Int)) = true := by simp; omega
    go_enter Tryz.func16, Tryz.ntmps16
    go_wp2_with fail
    go_ret
    exact ⟨ret_bool HNO.out.symm, Below.refl _ _⟩
theorem kept_infoT : (Tryz.prog.info? 33).map (fun i => (i.zero, i.size, i.bytes)) = some (some (.agg #[.int .i64 0, .int .i64 0, .int .i64 0]), 3, 24) := by kernel_rfl

set_option maxRecDepth 100000 in
theorem eq_kept1T (a b c : Int) (w : World) : (Op.equalIn 9999 33 (.agg #[.int .i64 a, .int .i64 b, .int .i64 c]) (.agg #[.int .i64 a, .int .i64 b, .int .i64 c])).run Tryz.prog w = .ok true w := by
  simp [go_sem]

set_option maxRecDepth 100000 in
theorem eq_kept4T (a0 a1 a2 a3 a4 a5 a6 a7 a8 a9 a10 a11 : Int) (w : World) :
    (Op.equalIn 10000 34 (.agg #[.int .i64 a0, .int .i64 a1, .int .i64 a2, .int .i64 a3, .int .i64 a4, .int .i64 a5, .int .i64 a6, .int .i64 a7, .int .i64 a8, .int .i64 a9, .int .i64 a10, .int .i64 a11])
      (.agg #[.int .i64 a0, .int .i64 a1, .int .i64 a2, .int .i64 a3, .int .i64 a4, .int .i64 a5, .int .i64 a6, .int .i64 a7, .int .i64 a8, .int .i64 a9, .int .i64 a10, .int .i64 a11])).run Tryz.prog w = .ok true w := by
  obtain ⟨i0, hi0, hz0, hz1, hz2⟩ := info_parts kept_infoT
  have hc : Tryz.prog.cellsOf 33 = 3 := by kernel_rfl
  rw [run_equalIn_array w 9999 _ _ Tryz.underlying34 hi0, hc]
  have hp : ∀ (xs : Array Value) (o : Nat) (w : World), (part 33 xs o).run Tryz.prog w = .ok (.agg (xs.extract o (o + 3))) w := fun xs o w => by
    simp [part, go_sem]
  simp only [show List.range 4 = [0, 1, 2, 3] from rfl, Op.eqItems, Sem.run_bind, hp, Result.andThen_ok]
  have e : ∀ (w : World) (a b c : Int), (Op.equalIn 9999 33 (.agg #[.int .i64 a, .int .i64 b, .int .i64 c]) (.agg #[.int .i64 a, .int .i64 b, .int .i64 c])).run Tryz.prog w = .ok true w := fun w a b c => eq_kept1T a b c w
  simp [hp, e]
attribute [local go_sem] eq_kept4T

set_option maxRecDepth 100000 in
set_option maxHeartbeats 8000000 in
theorem samePortT_any (p : Port) (A B : Option Addr) (c d : Nat) (w : World) (h1 : InP w p A) (h2 : InP w p B) (hl : p.ships.length ≤ 100000) :
    Calls Tryz.prog 15 #[.agg (portA p A c), .agg (portA p B d)] w fun e w' => e = .returned (.bool true) ∧ Below w.heap.size w w' := by
  have t1 : (p.now != p.now) = false := by simp
  have t2 : (p.shut != p.shut) = false := by simp
  have t3 : (p.next != p.next) = false := by simp
  have t4 : (((p.ships.length : Nat) : Int) != (p.ships.length : Int)) = false := by simp
  have hP0 : PortAt ((w.alloc (.cells (portA p A c) 36)).alloc (.cells (portA p B d) 36)) w.heap.size p A c := (PortAt.new w p A c).alloc _
  have hQ0 : PortAt ((w.alloc (.cells (portA p A c) 36)).alloc (.cells (portA p B d) 36)) (w.heap.size + 1) p B d := by
    have := PortAt.new (w.alloc (.cells (portA p A c) 36)) p B d
    simpa using this
  have hB0 : Below w.heap.size w ((w.alloc (.cells (portA p A c) 36)).alloc (.cells (portA p B d) 36)) := ((Below.refl _ _).alloc (Nat.le_refl _) _).alloc (by simp) _
  simp only [portA] at hP0 hQ0 hB0 ⊢
  go_enter Tryz.func15, Tryz.ntmps15
  go_wp2_with fail
  go_loopw [44] (fun i wr => ∃ k : Nat, k ≤ p.ships.length ∧ i = .int .i64 k ∧ PortAt wr w.heap.size p A c ∧ PortAt wr (w.heap.size + 1) p B d ∧ Below w.heap.size w wr) (fun i _ => p.ships.length - (intOf i).toNat)
  case atStart => exact ⟨0, Nat.zero_le _, rfl, hP0, hQ0, hB0⟩
  case round =>
    clear hP0 hQ0 hB0
    obtain ⟨k, hk, rfl, hP, hQ, hB⟩ := hrel
    have q1 := hP.ships
    have q2 := hQ.ships
    have q3 := hP.lt
    have q4 := hQ.lt
    by_cases hlt : k < p.ships.length
    · obtain ⟨b, off, hA, hbl, hcells⟩ := ships_at (Sl.below h1 hB) (by omega)
      subst hA
      obtain ⟨b2, off2, hA2, hbl2, hcells2⟩ := ships_at (Sl.below h2 hB) (by omega)
      subst hA2
      obtain ⟨d1, d2, d3, d4, d5, d6⟩ := hcells k hlt
      obtain ⟨f1, f2, f3, f4, f5, f6⟩ := hcells2 k hlt
      clear hcells hcells2
      generalize p.ships.getD k Ship.zero = x at *
      obtain ⟨xs, xw, xl, xc, xi, xq⟩ := x
      dsimp only at *
      go_wp2_with fail
      go_quiet (fail)
      go_wp2_with fail
      go_roundw
      case rel => exact ⟨k + 1, by omega, by go_num, hP.drewN _, hQ.drewN _, below_drewN hB _⟩
      case measure => simp [intOf] <;> omega
    · obtain rfl : k = p.ships.length := by omega
      go_wp2_with fail
      go_ret
      exact ⟨rfl, hB⟩

set_option maxRecDepth 100000 in
set_option maxHeartbeats 4000000 in
theorem sameD_any (G H : Nat → Prop) (g h : Nat) (d e : Desk) (w : World) (hD : DeskAt w G g d) (hE : DeskAt w H h e) (hp : e.p = d.p) (hg : PGood d.p) :
    Calls Tryz.prog 23 #[.pointer (some ⟨g, 0, none⟩), .pointer (some ⟨h, 0, none⟩)] w fun r w' => r = .returned (.bool true) ∧ Below w.heap.size w w' := by
  have HPO := Lib.hid (fun w h => portD_any G g d w h hg)
  have HPL := Lib.hid (fun w h => planD_any G g d w h hg)
  have HQO := Lib.hid (fun w h' => portD_any H h e w h' (by rw [hp]; exact hg))
  have HQL := Lib.hid (fun w h' => planD_any H h e w h' (by rw [hp]; exact hg))
  rw [hp] at HQO HQL
  obtain ⟨p, hpp⟩ : ∃ p, d.p = p := ⟨_, rfl⟩
  rw [hpp] at HPO HPL HQO HQL hg
  have hlen : p.ships.length ≤ 100000 := by have := hg.len; omega
  have HLEN := Lib.hid hlen
  have HLP := Lib.hid (show (thePlan p).length ≤ 100000 by rw [plan_len hg]; exact hlen)
  clear hp hpp hg hlen
  go_enter Tryz.func23, Tryz.ntmps23
  go_wp2_with fail
  refine (HPO.out _ hD).mono ?_
  rintro r w1 ⟨A1, c1, rfl, ho1, hb1⟩
  have hi1 : InP w1 p A1 := Sl.of_own ho1
  have hD1 := hD.below hb1
  have hE1 := hE.below hb1
  clear hD hE ho1
  go_wp2_with fail
  refine (HQO.out _ hE1).mono ?_
  rintro r w2 ⟨A2, c2, rfl, ho2, hb2⟩
  have hi2 : InP w2 p A2 := Sl.of_own ho2
  have hi12 : InP w2 p A1 := Sl.below hi1 hb2
  have hD2 := hD1.below hb2
  have hE2 := hE1.below hb2
  have hB2 := below_go hb1 hb2
  clear hD1 hE1 ho2 hi1 hb1 hb2
  go_wp2_with fail
  refine (samePortT_any p A1 A2 c1 c2 _ hi12 hi2 HLEN.out).mono ?_
  rintro r w3 ⟨rfl, hb3⟩
  have hD3 := hD2.below hb3
  have hE3 := hE2.below hb3
  have hB3 := below_go hB2 hb3
  clear hD2 hE2 hi12 hi2 hB2 hb3
  go_wp2_with fail
  refine (HPL.out _ hD3).mono ?_
  rintro r w4 ⟨A4, c4, rfl, ho4, hb4⟩
  have h4 := Sl.of_own ho4
  have hE4 := hE3.below hb4
  have hB4 := below_go hB3 hb4
  clear hD3 hE3 ho4 hB3 hb4
  go_wp2_with fail
  refine (HQL.out _ hE4).mono ?_
  rintro r w5 ⟨A5, c5, rfl, ho5, hb5⟩
  have h5 := Sl.of_own ho5
  have h45 := h4.below hb5
  have hB5 := below_go hB4 hb5
  clear hE4 ho5 hB4 hb5 h4
  go_wp2_with fail
  refine (sameIntsT_any (thePlan p) (thePlan p) A4 A5 c4 c5 _ h45 h5 HLP.out HLP.out).mono ?_
  rintro r w6 ⟨rfl, hb6⟩
  rw [show decide (thePlan p = thePlan p) = true by simp]
  have hB6 := below_go hB5 hb6
  go_wp2_with fail
  go_ret
  exact ⟨rfl, hB6⟩
end Go.Proofs.YtifmdkcpbajdcabGreatDoor

/- Walks: the document's answers: one port held against itself. -/
import Derived.Test.YtifmdkcpbajdcabGreatDoorRefPA
import Derived.ChangeKeysEq
set_option linter.unusedVariables false
set_option linter.unusedSimpArgs false
namespace Go.Proofs.YtifmdkcpbajdcabGreatDoor
open Go.RowKit Go.Proofs Plain
theorem kept_info : (Tryz.prog.info? 33).map (fun i => (i.zero, i.size, i.bytes)) = some (some (.agg #[.int .i64 0, .int .i64 0, .int .i64 0]), 3, 24) := by kernel_rfl
set_option maxRecDepth 100000 in
theorem eq_kept1 (a b c : Int) (w : World) : (Op.equalIn 9999 33 (.agg #[.int .i64 a, .int .i64 b, .int .i64 c]) (.agg #[.int .i64 a, .int .i64 b, .int .i64 c])).run Tryz.prog w = .ok true w := by
  simp [go_sem]
set_option maxRecDepth 100000 in
theorem eq_kept4 (a0 a1 a2 a3 a4 a5 a6 a7 a8 a9 a10 a11 : Int) (w : World) :
    (Op.equalIn 10000 34 (.agg #[.int .i64 a0, .int .i64 a1, .int .i64 a2, .int .i64 a3, .int .i64 a4, .int .i64 a5, .int .i64 a6, .int .i64 a7, .int .i64 a8, .int .i64 a9, .int .i64 a10, .int .i64 a11])
      (.agg #[.int .i64 a0, .int .i64 a1, .int .i64 a2, .int .i64 a3, .int .i64 a4, .int .i64 a5, .int .i64 a6, .int .i64 a7, .int .i64 a8, .int .i64 a9, .int .i64 a10, .int .i64 a11])).run Tryz.prog w = .ok true w := by
  obtain ⟨i0, hi0, hz0, hz1, hz2⟩ := info_parts kept_info
  have hc : Tryz.prog.cellsOf 33 = 3 := by kernel_rfl
  rw [run_equalIn_array w 9999 _ _ Tryz.underlying34 hi0, hc]
  have hp : ∀ (xs : Array Value) (o : Nat) (w : World), (part 33 xs o).run Tryz.prog w = .ok (.agg (xs.extract o (o + 3))) w := fun xs o w => by
    simp [part, go_sem]
  simp only [show List.range 4 = [0, 1, 2, 3] from rfl, Op.eqItems, Sem.run_bind, hp, Result.andThen_ok]
  have e : ∀ (w : World) (a b c : Int), (Op.equalIn 9999 33 (.agg #[.int .i64 a, .int .i64 b, .int .i64 c]) (.agg #[.int .i64 a, .int .i64 b, .int .i64 c])).run Tryz.prog w = .ok true w := fun w a b c => eq_kept1 a b c w
  simp [hp, e]
attribute [local go_sem] eq_kept4
set_option maxRecDepth 100000 in
set_option maxHeartbeats 8000000 in
theorem samePort_any (p : Port) (A B : Option Addr) (c d : Nat) (w : World) (h1 : InP w p A) (h2 : InP w p B) (hl : p.ships.length <= 100000) :
    Calls Tryz.prog 17 #[.agg (portA p A c), .agg (portA p B d)] w fun e w' => e = .returned (.bool true) /\ Below w.heap.size w w' := by
  have t1 : (p.now != p.now) = false := by simp
  have t2 : (p.shut != p.shut) = false := by simp
  have t3 : (p.next != p.next) = false := by simp
  have t4 : (((p.ships.length : Nat) : Int) != (p.ships.length : Int)) = false := by simp
  have hP0 : PortAt ((w.alloc (.cells (portA p A c) 36)).alloc (.cells (portA p B d) 36)) w.heap.size p A c := (PortAt.new w p A c).alloc _
  have hQ0 : PortAt ((w.alloc (.cells (portA p A c) 36)).alloc (.cells (portA p B d) 36)) (w.heap.size + 1) p B d := by
    have := PortAt.new (w.alloc (.cells (portA p A c) 36)) p B d
    simpa using this
  have hB0 : Below w.heap.size w ((w.alloc (.cells (portA p A c) 36)).alloc (.cells (portA p B d) 36)) := ((Below.refl _ _).alloc (Nat.le_refl _) _).alloc (by simp) _
  simp only [portA] at hP0 hQ0 hB0 ⊢
  go_enter Tryz.func17, Tryz.ntmps17
  go_wp2_with fail
  go_loopw [44] (fun i wr => ∃ k : Nat, k <= p.ships.length /\ i = .int .i64 k /\ PortAt wr w.heap.size p A c /\ PortAt wr (w.heap.size + 1) p B d /\ Below w.heap.size w wr) (fun i _ => p.ships.length - (intOf i).toNat)
  case atStart => exact ⟨0, Nat.zero_le _, rfl, hP0, hQ0, hB0⟩
  case round =>
    clear hP0 hQ0 hB0
    obtain ⟨k, hk, rfl, hP, hQ, hB⟩ := hrel
    have q1 := hP.ships
    have q2 := hQ.ships
    have q3 := hP.lt
    have q4 := hQ.lt
    by_cases hlt : k < p.ships.length
    · obtain ⟨b, off, hA, hbl, hcells⟩ := ships_at (Sl.below h1 hB) (by omega)
      subst hA
      obtain ⟨b2, off2, hA2, hbl2, hcells2⟩ := ships_at (Sl.below h2 hB) (by omega)
      subst hA2
      obtain ⟨d1, d2, d3, d4, d5, d6⟩ := hcells k hlt
      obtain ⟨f1, f2, f3, f4, f5, f6⟩ := hcells2 k hlt
      clear hcells hcells2
      generalize p.ships.getD k Ship.zero = x at *
      obtain ⟨xs, xw, xl, xc, xi, xq⟩ := x
      dsimp only at *
      go_wp2_with fail
      go_quiet (fail)
      go_wp2_with fail
      go_roundw
      case rel => exact ⟨k + 1, by omega, by go_num, hP.drewN _, hQ.drewN _, bdN hB _⟩
      case measure => simp [intOf] <;> omega
    · obtain rfl : k = p.ships.length := by omega
      go_wp2_with fail
      go_ret
      exact ⟨rfl, hB⟩
end Go.Proofs.YtifmdkcpbajdcabGreatDoor

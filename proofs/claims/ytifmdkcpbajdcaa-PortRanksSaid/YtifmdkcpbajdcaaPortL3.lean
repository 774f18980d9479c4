/- Walks: an order about one that waits moves nobody who is ahead of it. -/
import Derived.Test.YtifmdkcpbajdcaaTellOk
import Derived.Test.YtifmdkcpbajdcaaPortsW
namespace Go.Proofs.Ytifmdkcpbajdcaa
open Go.RowKit Go.Proofs Plain

set_option maxRecDepth 100000 in
set_option maxHeartbeats 20000000 in
theorem portRanks_not (hports : PortsOk) (p : Port) (A : Option Addr) (c : Nat) (o : Order) (w : World) (hp : PWf p) (hin : InP w p A) (hno : ¬ (goodP p = true ∧ (o.kind = 1 ∨ o.kind = 2 ∨ o.kind = 3 ∨ o.kind = 5))) :
    Calls Try.prog 10 #[.agg (portA p A c), .agg (orderA o)] w fun e w' => e = .returned (.bool true) ∧ Below w.heap.size w w' := by
  have HPS := Lib.hid hports
  clear hports
  simp only [portA, orderA]
  go_enter Try.func10, Try.ntmps10
  have hP0 : PortAt ((w.alloc (.cells (portA p A c) 46)).alloc (.cells (orderA o) 61)) w.heap.size p A c := (PortAt.new w p A c).alloc _
  have hO0 : ((w.alloc (.cells (portA p A c) 46)).alloc (.cells (orderA o) 61)).heap[w.heap.size + 1]? = some (.cells (orderA o) 61 (0, 0)) := by
    have h1 := heap_alloc_new (w.alloc (.cells (portA p A c) 46)) (.cells (orderA o) 61)
    simpa using h1
  have hB0 : Below w.heap.size w ((w.alloc (.cells (portA p A c) 46)).alloc (.cells (orderA o) 61)) := ((Below.refl _ _).alloc (Nat.le_refl _) _).alloc (by simp) _
  have hs0 : ((w.alloc (.cells (portA p A c) 46)).alloc (.cells (orderA o) 61)).heap.size = w.heap.size + 2 := by simp
  simp only [portA, orderA] at hP0 hB0 hs0 hO0
  go_wp2_with (refine wpList_load_port rfl rfl (by first | rfl | simp [Act.eval, Act.put]) hP0 ?_)
  refine (good_port p A c _ hp (Sl.below hin hB0)).mono ?_
  rintro e w1 ⟨rfl, hb1⟩
  have hB1 := below_go hB0 hb1
  have hO1 := (hb1.block (w.heap.size + 1) (by rw [hs0]; omega)).trans hO0
  have k0 : w1.cell? ⟨w.heap.size + 1, 0, none⟩ = some (.int .i64 o.kind) := cell_of_row _ _ 0 _ _ _ hO1
  clear hP0 hO0 hO1 hB0 hb1 hs0
  cases hg : goodP p with
  | false =>
    clear hno
    go_wp2_with fail
    refine (HPS.out _).mono ?_
    rintro e w2 ⟨rfl, hb2⟩
    go_wp2_with fail
    go_ret
    exact ⟨rfl, below_go hB1 hb2⟩
  | true =>
    have hk : ¬ (o.kind = 1 ∨ o.kind = 2 ∨ o.kind = 3 ∨ o.kind = 5) := fun h => hno ⟨hg, h⟩
    obtain ⟨kd, oa, ob, oc⟩ := o
    dsimp only at hk k0 ⊢
    have e1 : (kd == 1) = false := by rw [beq_eq_false_iff_ne]; omega
    have f1 : (kd != 1) = true := by simp; omega
    have g1 : decide (kd = 1) = false := by simp; omega
    have e2 : (kd == 2) = false := by rw [beq_eq_false_iff_ne]; omega
    have f2 : (kd != 2) = true := by simp; omega
    have g2 : decide (kd = 2) = false := by simp; omega
    have e3 : (kd == 3) = false := by rw [beq_eq_false_iff_ne]; omega
    have f3 : (kd != 3) = true := by simp; omega
    have g3 : decide (kd = 3) = false := by simp; omega
    have e5 : (kd == 5) = false := by rw [beq_eq_false_iff_ne]; omega
    have f5 : (kd != 5) = true := by simp; omega
    have g5 : decide (kd = 5) = false := by simp; omega
    clear hno hk
    go_wp2_with fail
    refine (HPS.out _).mono ?_
    rintro e w2 ⟨rfl, hb2⟩
    go_wp2_with fail
    go_ret
    exact ⟨rfl, below_go hB1 hb2⟩
end Go.Proofs.Ytifmdkcpbajdcaa

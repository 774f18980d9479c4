/- Walks: an order told to a port, given what the inner telling makes of it. -/
import Derived.Test.YtifmdkcpbajdcabTellC
import Derived.Test.YtifmdkcpbajdcabGoodW
namespace Go.Proofs.Ytifmdkcpbajdcab
open Go.RowKit Go.Proofs Plain

def i64o (o : Order) : Prop := i64 o.kind ∧ i64 o.a ∧ i64 o.b ∧ i64 o.c

/-- What the inner telling makes of a good port. -/
def TellOk (p : Port) (o : Order) : Prop :=
  ∀ (A : Option Addr) (c g base : Nat) (w : World), PortAt w g p A c → OwnK w base (.slice A p.ships.length c) p.ships → (Value.slice A p.ships.length c).ownBlock ≠ some g → base ≤ g → base ≤ w.heap.size →
    Calls Try.prog 47 #[.pointer (some ⟨g, 0, none⟩), .agg (orderA o)] w (RetTell g base (tell1 p o) w)

def RetTellP (r : Port × Int × Int) (w : World) (e : Ending) (w' : World) : Prop :=
  ∃ A c, e = .returned (.tuple #[.agg (portA r.1 A c), .int .i64 r.2.1, .int .i64 r.2.2]) ∧ InP w' r.1 A ∧ Below w.heap.size w w'

set_option maxRecDepth 100000 in
set_option maxHeartbeats 8000000 in
theorem tell_bad (p : Port) (A : Option Addr) (c : Nat) (o : Order) (w : World) (hp : PWf p) (hin : InP w p A) (hg : goodP p = false) :
    Calls Try.prog 21 #[.agg (portA p A c), .agg (orderA o)] w (RetTellP (p, 0, 1) w) := by
  have HG := Lib.hid hg
  clear hg
  simp only [portA, orderA]
  go_enter Try.func21, Try.ntmps21
  have hP0 : PortAt (((w.alloc (.cells (portA p A c) 27)).alloc (.cells (orderA o) 45)).alloc (.cells (portA Port.zero none 0) 27)) w.heap.size p A c := ((PortAt.new w p A c).alloc _).alloc _
  have hZ0 : PortAt (((w.alloc (.cells (portA p A c) 27)).alloc (.cells (orderA o) 45)).alloc (.cells (portA Port.zero none 0) 27)) (w.heap.size + 2) Port.zero none 0 := by
    have := PortAt.new ((w.alloc (.cells (portA p A c) 27)).alloc (.cells (orderA o) 45)) Port.zero none 0
    simpa using this
  have hB0 : Below w.heap.size w (((w.alloc (.cells (portA p A c) 27)).alloc (.cells (orderA o) 45)).alloc (.cells (portA Port.zero none 0) 27)) := (((Below.refl _ _).alloc (Nat.le_refl _) _).alloc (by simp) _).alloc (by simp; omega) _
  have hs0 : (((w.alloc (.cells (portA p A c) 27)).alloc (.cells (orderA o) 45)).alloc (.cells (portA Port.zero none 0) 27)).heap.size = w.heap.size + 3 := by simp
  simp only [portA, orderA, Port.zero, Port.keep, Kept.zero, List.getD_cons_zero, List.getD_cons_succ, List.length_nil] at hP0 hZ0 hB0 hs0
  go_wp2_with (refine wpList_load_port rfl rfl (by first | rfl | simp [Act.eval, Act.put]) hP0 ?_)
  refine (good_port p A c _ hp (Sl.below hin hB0)).mono ?_
  rintro e w1 ⟨rfl, hb1⟩
  rw [HG.out]
  have hP1 := PortAt.below (p := p) (A := A) (c := c) hP0 hb1 (by rw [hs0]; omega)
  have hZ1 := PortAt.below (p := Port.zero) (A := none) (c := 0) hZ0 hb1 (by rw [hs0]; omega)
  have hB1 := below_go hB0 hb1
  go_wp2_with (first
    | (refine wpList_load_port rfl rfl (by first | rfl | simp [Act.eval, Act.put]) hP1 ?_)
    | (refine wpList_store_port rfl rfl (by first | rfl | simp [Act.eval, Act.put]) (by first | rfl | simp [Act.eval, Act.put]) hZ1 ?_; intro w4 hZ4 hr4))
  refine bodyPost_ret (results_port3 rfl _ _ (w.heap.size + 2) rfl hZ4) rfl ?_
  have hB4 := hB1.trans (hr4.below (n := w.heap.size) (by omega))
  exact ⟨A, c, rfl, Sl.below hin hB4, hB4⟩

theorem tellL_no {p : Port} {o : Order} (h : (tell1 p o).2.2 ≠ 0) : tellL p o = (p, 0, (tell1 p o).2.2) := by unfold tellL; rw [if_neg h]
theorem tellL_room {p : Port} {o : Order} (h : (tell1 p o).2.2 = 0) (hb : (baseL (tell1 p o).1).2 = false) : tellL p o = (p, 0, 6) := by unfold tellL; rw [if_pos h, hb]; rfl
theorem tellL_yes {p : Port} {o : Order} (h : (tell1 p o).2.2 = 0) (hb : (baseL (tell1 p o).1).2 = true) : tellL p o = tell1 p o := by unfold tellL; rw [if_pos h, if_pos hb]

theorem tell1_range (p : Port) (o : Order) : 0 ≤ (tell1 p o).2.2 ∧ (tell1 p o).2.2 ≤ 6 := by
  have hs : ∀ n xs, 0 ≤ shipE p n xs ∧ shipE p n xs ≤ 6 := fun n xs => by unfold shipE; repeat' split
                                                                          all_goals omega
  have h1 := hs o.a [1, 2, 3]
  have h2 := hs o.a [1]
  have h3 := hs o.a [2]
  unfold tell1
  repeat' split
  all_goals (dsimp only; omega)

set_option maxRecDepth 100000 in
set_option maxHeartbeats 16000000 in
theorem tell_good_walk (p : Port) (A : Option Addr) (c : Nat) (o : Order) (w : World) (hg : PGood p) (hin : InP w p A) (ht : TellOk p o) :
    Calls Try.prog 21 #[.agg (portA p A c), .agg (orderA o)] w (RetTellP (tellL p o) w) := by
  have hlen := hg.len
  have HP := Lib.hid (fair_wf hg.toFair)
  have HG := Lib.hid ((goodP_iff hg.four).2 hg)
  have HFR := Lib.hid (fun h => @tell1_fair p o hg.toFair h)
  have HNO := Lib.hid (@tellL_no p o)
  have HRM := Lib.hid (@tellL_room p o)
  have HYS := Lib.hid (@tellL_yes p o)
  have HRG := Lib.hid (tell1_range p o)
  have HT := Lib.hid ht
  clear hg ht
  simp only [portA, orderA]
  go_enter Try.func21, Try.ntmps21
  have hP0 : PortAt (((w.alloc (.cells (portA p A c) 27)).alloc (.cells (orderA o) 45)).alloc (.cells (portA Port.zero none 0) 27)) w.heap.size p A c := ((PortAt.new w p A c).alloc _).alloc _
  have hO0 : (((w.alloc (.cells (portA p A c) 27)).alloc (.cells (orderA o) 45)).alloc (.cells (portA Port.zero none 0) 27)).heap[w.heap.size + 1]? = some (.cells (orderA o) 45 (0, 0)) := by
    have h1 := heap_alloc_new (w.alloc (.cells (portA p A c) 27)) (.cells (orderA o) 45)
    have h2 := Below.heap_alloc ((w.alloc (.cells (portA p A c) 27)).alloc (.cells (orderA o) 45)) (.cells (portA Port.zero none 0) 27) (w.heap.size + 1) (by simp)
    rw [h2]; simpa using h1
  have hZ0 : PortAt (((w.alloc (.cells (portA p A c) 27)).alloc (.cells (orderA o) 45)).alloc (.cells (portA Port.zero none 0) 27)) (w.heap.size + 2) Port.zero none 0 := by
    have := PortAt.new ((w.alloc (.cells (portA p A c) 27)).alloc (.cells (orderA o) 45)) Port.zero none 0
    simpa using this
  have hB0 : Below w.heap.size w (((w.alloc (.cells (portA p A c) 27)).alloc (.cells (orderA o) 45)).alloc (.cells (portA Port.zero none 0) 27)) := (((Below.refl _ _).alloc (Nat.le_refl _) _).alloc (by simp) _).alloc (by simp; omega) _
  have hs0 : (((w.alloc (.cells (portA p A c) 27)).alloc (.cells (orderA o) 45)).alloc (.cells (portA Port.zero none 0) 27)).heap.size = w.heap.size + 3 := by simp
  simp only [portA, orderA, Port.zero, Port.keep, Kept.zero, List.getD_cons_zero, List.getD_cons_succ, List.length_nil] at hP0 hZ0 hB0 hs0 hO0
  go_wp2_with (refine wpList_load_port rfl rfl (by first | rfl | simp [Act.eval, Act.put]) hP0 ?_)
  refine (good_port p A c _ HP.out (Sl.below hin hB0)).mono ?_
  rintro e w1 ⟨rfl, hb1⟩
  rw [HG.out]
  have hP1 := PortAt.below (p := p) (A := A) (c := c) hP0 hb1 (by rw [hs0]; omega)
  have hZ1 := PortAt.below (p := Port.zero) (A := none) (c := 0) hZ0 hb1 (by rw [hs0]; omega)
  have hO1 := (hb1.block (w.heap.size + 1) (by rw [hs0]; omega)).trans hO0
  have hB1 := below_go hB0 hb1
  have hs1 := hb1.size
  rw [hs0] at hs1
  clear hP0 hZ0 hB0 hO0 hb1 hs0
  go_wp2_with (refine wpList_load_port rfl rfl (by first | rfl | simp [Act.eval, Act.put]) hP1 ?_)
  refine (ownP_any p A c _ (Sl.below hin hB1) (by omega)).mono ?_
  rintro e w2 ⟨A2, c2, rfl, ho2, hb2⟩
  have hs2 := hb2.size
  have hP2 := hP1.below hb2 (by omega)
  have hZ2 := hZ1.below hb2 (by omega)
  have hO2 := (hb2.block (w.heap.size + 1) (by omega)).trans hO1
  have hB2 := below_go hB1 hb2
  have hQ3 := PortAt.new w2 p A2 c2
  have hP3 := hP2.alloc (.cells (portA p A2 c2) 27)
  have hZ3 := hZ2.alloc (.cells (portA p A2 c2) 27)
  have hO3 := (Below.heap_alloc w2 (.cells (portA p A2 c2) 27) (w.heap.size + 1) (by omega)).trans hO2
  have hB3 := hB2.alloc hB2.size (.cells (portA p A2 c2) 27)
  have ho3 := World.ownsRow.alloc ho2 (.cells (portA p A2 c2) 27)
  have hs3 : (w2.alloc (.cells (portA p A2 c2) 27)).heap.size = w2.heap.size + 1 := by simp
  have hob : (Value.slice A2 p.ships.length c2).ownBlock ≠ some w2.heap.size := fun e => by
    rcases ho2.2 with ⟨hv, _⟩ | ⟨gg, cap, cur, hv, _, hh, _⟩
    · rw [hv] at e; cases e
    · rw [hv] at e; simp only [Value.ownBlock, Option.some.injEq] at e
      have := (Array.getElem?_eq_some_iff.1 hh).1
      omega
  have hoc : ∀ i, i < 4 → (w2.alloc (.cells (portA p A2 c2) 27)).cell? ⟨w.heap.size + 1, i, none⟩ = (orderA o)[i]? := fun i hi => cell_of_row _ _ i _ _ _ hO3
  have o0 := hoc 0 (by omega)
  have o1 := hoc 1 (by omega)
  have o2 := hoc 2 (by omega)
  have o3 := hoc 3 (by omega)
  simp only [orderA, portA] at o0 o1 o2 o3 hQ3 hP3 hZ3 hO3 hB3 ho3 hs3
  clear hoc hP1 hZ1 hO1 hB1 hP2 hZ2 hO2 hB2 hb2 ho2
  simp only [portA]
  go_wp2_with fail
  refine (HT.out A2 c2 w2.heap.size w1.heap.size _ hQ3 ho3 hob hs2 (by rw [hs3]; omega)).mono ?_
  rintro e w3 ⟨A4, c4, rfl, hQ4, ho4, hog4, hb4⟩
  have hP4 : PortAt w3 w.heap.size p A c := PortAt.below (p := p) (A := A) (c := c) hP3 hb4 (by omega)
  have hZ4 : PortAt w3 (w.heap.size + 2) Port.zero none 0 := PortAt.below (p := Port.zero) (A := none) (c := 0) hZ3 hb4 (by omega)
  have hB4 := hB3.trans (hb4.mono (by omega))
  have hs4 := hb4.size
  rw [hs3] at hs4
  clear hP3 hZ3 hB3 hQ3 ho3 hob hO3 o0 o1 o2 o3 hog4 hb4 HT
  generalize tell1 p o = r at *
  obtain ⟨q, n, er⟩ := r
  dsimp only at *
  by_cases he : er = 0
  · subst he
    have hfq := HFR.out rfl
    cases hbq : (baseL q).2 with
    | true =>
      have HE := Lib.hid (HYS.out rfl hbq)
      have HB := Lib.hid hbq
      clear HNO HRM HYS HFR hbq HRG
      go_wp2_with (refine wpList_load_port rfl rfl (by first | rfl | simp [Act.eval, Act.put]) hQ4 ?_)
      refine (base_fr q A4 c4 _ hfq (Sl.of_own ho4)).mono ?_
      rintro e w5 ⟨A6, c6, rfl, h6, hb6, hr6⟩
      rw [HB.out]
      have hQ6 := hQ4.below hb6 hQ4.lt
      have hZ6 := hZ4.below hb6 hZ4.lt
      have hB6 := below_go hB4 hb6
      have ho6 := own_below ho4 hb6
      go_wp2_with (first
        | (refine wpList_load_port rfl rfl (by first | rfl | simp [Act.eval, Act.put]) hQ6 ?_)
        | (refine wpList_store_port rfl rfl (by first | rfl | simp [Act.eval, Act.put]) (by first | rfl | simp [Act.eval, Act.put]) hZ6 ?_; intro w7 hZ7 hr7))
      refine bodyPost_ret (results_port3 rfl _ _ (w.heap.size + 2) rfl hZ7) rfl ?_
      rw [HE.out]
      exact ⟨A4, c4, rfl, Sl.of_own (own_one ho6 hr7 (by omega)), hB6.trans (hr7.below (n := w.heap.size) (by omega))⟩
    | false =>
      have HE := Lib.hid (HRM.out rfl hbq)
      have HB := Lib.hid hbq
      clear HNO HRM HYS HFR hbq HRG
      go_wp2_with (refine wpList_load_port rfl rfl (by first | rfl | simp [Act.eval, Act.put]) hQ4 ?_)
      refine (base_fr q A4 c4 _ hfq (Sl.of_own ho4)).mono ?_
      rintro e w5 ⟨A6, c6, rfl, h6, hb6, hr6⟩
      rw [HB.out]
      have hP6 := hP4.below hb6 hP4.lt
      have hZ6 := hZ4.below hb6 hZ4.lt
      have hB6 := below_go hB4 hb6
      go_wp2_with (first
        | (refine wpList_load_port rfl rfl (by first | rfl | simp [Act.eval, Act.put]) hP6 ?_)
        | (refine wpList_store_port rfl rfl (by first | rfl | simp [Act.eval, Act.put]) (by first | rfl | simp [Act.eval, Act.put]) hZ6 ?_; intro w7 hZ7 hr7))
      refine bodyPost_ret (results_port3 rfl _ _ (w.heap.size + 2) rfl hZ7) rfl ?_
      rw [HE.out]
      have hB7 := hB6.trans (hr7.below (n := w.heap.size) (by omega))
      exact ⟨A, c, rfl, Sl.below hin hB7, hB7⟩
  · have HE := Lib.hid (HNO.out he)
    have he' : (er == 0) = false := by simpa using he
    obtain ⟨r1, r2⟩ := HRG.out
    clear HNO HRM HYS HFR HRG
    go_wp2_with (first
      | (refine wpList_load_port rfl rfl (by first | rfl | simp [Act.eval, Act.put]) hP4 ?_)
      | (refine wpList_store_port rfl rfl (by first | rfl | simp [Act.eval, Act.put]) (by first | rfl | simp [Act.eval, Act.put]) hZ4 ?_; intro w7 hZ7 hr7))
    refine bodyPost_ret (results_port3 rfl _ _ (w.heap.size + 2) rfl hZ7) rfl ?_
    rw [HE.out]
    have hB7 := hB4.trans (hr7.below (n := w.heap.size) (by omega))
    exact ⟨A, c, rfl, Sl.below hin hB7, hB7⟩
end Go.Proofs.Ytifmdkcpbajdcab

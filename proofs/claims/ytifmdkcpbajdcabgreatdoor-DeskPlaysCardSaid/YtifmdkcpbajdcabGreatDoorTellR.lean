/- Walks: an order told to a port, given what the inner telling makes of it. -/
import Derived.Test.YtifmdkcpbajdcabGreatDoorTellQ
import Derived.Test.YtifmdkcpbajdcabGreatDoorGoodW
set_option linter.unusedVariables false
set_option linter.unusedSimpArgs false
set_option maxHeartbeats 16000000
namespace Go.Proofs.YtifmdkcpbajdcabGreatDoor
open Go.RowKit Go.Proofs Plain
open Go.Act renaming put -> aP, eval -> aE
open Go.Lib renaming hid -> hd_
def TellOk (p : Port) (o : Order) : Prop :=
  ∀ (A : Option Addr) (c g base : Nat) (w : World), PortAt w g p A c -> OwnK w base (.slice A p.ships.length c) p.ships -> (Value.slice A p.ships.length c).ownBlock ≠ some g -> base <= g -> base <= w.heap.size ->
    Calls Tryz.prog 55 #[.pointer (some ⟨g, 0, none⟩), .agg (orA o)] w (RetTell g base (tell1 p o) w)
def RetTellP (r : Port × Int × Int) (w : World) (e : Ending) (w' : World) : Prop :=
  ∃ A c, e = .returned (.tuple #[.agg (portA r.1 A c), .int .i64 r.2.1, .int .i64 r.2.2]) /\ InP w' r.1 A /\ Below w.heap.size w w'
theorem tellL_no {p : Port} {o : Order} (h : (tell1 p o).2.2 ≠ 0) : tellL p o = (p, 0, (tell1 p o).2.2) := by unfold tellL; rw [if_neg h]
theorem tellL_room {p : Port} {o : Order} (h : (tell1 p o).2.2 = 0) (hb : (baseL (tell1 p o).1).2 = false) : tellL p o = (p, 0, 6) := by unfold tellL; rw [if_pos h, hb]; rfl
theorem tellL_yes {p : Port} {o : Order} (h : (tell1 p o).2.2 = 0) (hb : (baseL (tell1 p o).1).2 = true) : tellL p o = tell1 p o := by unfold tellL; rw [if_pos h, if_pos hb]
theorem tell1_range (p : Port) (o : Order) : 0 <= (tell1 p o).2.2 /\ (tell1 p o).2.2 <= 6 := by
  have hs : ∀ n xs, 0 <= shipE p n xs /\ shipE p n xs <= 6 := fun n xs => by unfold shipE; repeat' split
                                                                             all_goals omega
  have h1 := hs o.a [1, 2, 3]
  have h2 := hs o.a [1]
  have h3 := hs o.a [2]
  unfold tell1
  repeat' split
  all_goals (dsimp only; omega)
set_option maxRecDepth 100000 in
theorem tell_good_walk (p : Port) (A : Option Addr) (c : Nat) (o : Order) (w : World) (hg : PGood p) (hin : InP w p A) (ht : TellOk p o) :
    Calls Tryz.prog 30 #[.agg (portA p A c), .agg (orA o)] w (RetTellP (tellL p o) w) := by
  have hlen := hg.len
  have HP := hd_ (fair_wf hg.toFair)
  have HG := hd_ ((goodP_iff hg.four).2 hg)
  have HFR := hd_ (fun h => @tell1_fair p o hg.toFair h)
  have HNO := hd_ (@tellL_no p o)
  have HRM := hd_ (@tellL_room p o)
  have HYS := hd_ (@tellL_yes p o)
  have HRG := hd_ (tell1_range p o)
  have HT := hd_ ht
  clear hg ht
  simp only [portA, orA]
  go_enter Tryz.func30, Tryz.ntmps30
  have hP0 : PortAt (((w.alloc (.cells (portA p A c) 36)).alloc (.cells (orA o) 41)).alloc (.cells (portA Port.zero none 0) 36)) w.heap.size p A c := ((PortAt.new w p A c).alloc _).alloc _
  have hO0 : (((w.alloc (.cells (portA p A c) 36)).alloc (.cells (orA o) 41)).alloc (.cells (portA Port.zero none 0) 36)).heap[w.heap.size + 1]? = some (.cells (orA o) 41 (0, 0)) := by
    have h1 := heap_alloc_new (w.alloc (.cells (portA p A c) 36)) (.cells (orA o) 41)
    have h2 := Below.heap_alloc ((w.alloc (.cells (portA p A c) 36)).alloc (.cells (orA o) 41)) (.cells (portA Port.zero none 0) 36) (w.heap.size + 1) (by simp)
    rw [h2]; simpa using h1
  have hZ0 : PortAt (((w.alloc (.cells (portA p A c) 36)).alloc (.cells (orA o) 41)).alloc (.cells (portA Port.zero none 0) 36)) (w.heap.size + 2) Port.zero none 0 := by
    have := PortAt.new ((w.alloc (.cells (portA p A c) 36)).alloc (.cells (orA o) 41)) Port.zero none 0
    simpa using this
  have hB0 : Below w.heap.size w (((w.alloc (.cells (portA p A c) 36)).alloc (.cells (orA o) 41)).alloc (.cells (portA Port.zero none 0) 36)) := (((Below.refl _ _).alloc (Nat.le_refl _) _).alloc (by simp) _).alloc (by simp; omega) _
  have hs0 : (((w.alloc (.cells (portA p A c) 36)).alloc (.cells (orA o) 41)).alloc (.cells (portA Port.zero none 0) 36)).heap.size = w.heap.size + 3 := by simp
  simp only [portA, orA, Port.zero, Port.keep, Kept.zero, List.getD_cons_zero, List.getD_cons_succ, List.length_nil] at hP0 hZ0 hB0 hs0 hO0
  go_wp2_with (refine wLP rfl rfl (by first | rfl | simp [aE, aP]) hP0 ?_)
  refine (good_port p A c _ HP.out (Sl.below hin hB0)).mono ?_
  rintro e w1 ⟨rfl, hb1⟩
  rw [HG.out]
  have hP1 := PortAt.below (p := p) (A := A) (c := c) hP0 hb1 (by rw [hs0]; omega)
  have hZ1 := PortAt.below (p := Port.zero) (A := none) (c := 0) hZ0 hb1 (by rw [hs0]; omega)
  have hO1 := (hb1.block (w.heap.size + 1) (by rw [hs0]; omega)).trans hO0
  have hB1 := bG_ hB0 hb1
  have hs1 := hb1.size
  rw [hs0] at hs1
  clear hP0 hZ0 hB0 hO0 hb1 hs0
  go_wp2_with (refine wLP rfl rfl (by first | rfl | simp [aE, aP]) hP1 ?_)
  refine (ownP_any p A c _ (Sl.below hin hB1) (by omega)).mono ?_
  rintro e w2 ⟨A2, c2, rfl, ho2, hb2⟩
  have hs2 := hb2.size
  have hP2 := hP1.below hb2 (by omega)
  have hZ2 := hZ1.below hb2 (by omega)
  have hO2 := (hb2.block (w.heap.size + 1) (by omega)).trans hO1
  have hB2 := bG_ hB1 hb2
  have hQ3 := PortAt.new w2 p A2 c2
  have hP3 := hP2.alloc (.cells (portA p A2 c2) 36)
  have hZ3 := hZ2.alloc (.cells (portA p A2 c2) 36)
  have hO3 := (Below.heap_alloc w2 (.cells (portA p A2 c2) 36) (w.heap.size + 1) (by omega)).trans hO2
  have hB3 := hB2.alloc hB2.size (.cells (portA p A2 c2) 36)
  have ho3 := World.ownsRow.alloc ho2 (.cells (portA p A2 c2) 36)
  have hs3 : (w2.alloc (.cells (portA p A2 c2) 36)).heap.size = w2.heap.size + 1 := by simp
  have hob : (Value.slice A2 p.ships.length c2).ownBlock ≠ some w2.heap.size := fun e => by
    rcases ho2.2 with ⟨hv, _⟩ | ⟨gg, cap, cur, hv, _, hh, _⟩
    · rw [hv] at e; cases e
    · rw [hv] at e; simp only [Value.ownBlock, Option.some.injEq] at e
      have := (Array.getElem?_eq_some_iff.1 hh).1
      omega
  have hoc : ∀ i, i < 4 -> (w2.alloc (.cells (portA p A2 c2) 36)).cell? ⟨w.heap.size + 1, i, none⟩ = (orA o)[i]? := fun i hi => cell_of_row _ _ i _ _ _ hO3
  have o0 := hoc 0 (by omega)
  have o1 := hoc 1 (by omega)
  have o2 := hoc 2 (by omega)
  have o3 := hoc 3 (by omega)
  simp only [orA, portA] at o0 o1 o2 o3 hQ3 hP3 hZ3 hO3 hB3 ho3 hs3
  clear hoc hP1 hZ1 hO1 hB1 hP2 hZ2 hO2 hB2 hb2 ho2
  simp only [portA]
  go_wp2_with fail
  refine (HT.out A2 c2 w2.heap.size w1.heap.size _ hQ3 ho3 hob hs2 (by rw [hs3]; omega)).mono ?_
  rintro e w3 ⟨A4, c4, rfl, hQ4, ho4, hog4, hb4⟩
  have hP4 : PortAt w3 w.heap.size p A c := PortAt.below (p := p) (A := A) (c := c) hP3 hb4 (by omega)
  have hZ4 : PortAt w3 (w.heap.size + 2) Port.zero none 0 := PortAt.below (p := Port.zero) (A := none) (c := 0) hZ3 hb4 (by omega)
  have hB4 := hB3.trans (hb4.mono (by omega))
  have hs4 := hb4.size
  rw [hs3] at hs4
  clear hP3 hZ3 hB3 hQ3 ho3 hob hO3 o0 o1 o2 o3 hog4 hb4 HT
  generalize tell1 p o = r at *
  obtain ⟨q, n, er⟩ := r
  dsimp only at *
  by_cases he : er = 0
  · subst he
    have hfq := HFR.out rfl
    cases hbq : (baseL q).2 with
    | true =>
      have HE := hd_ (HYS.out rfl hbq)
      have HB := hd_ hbq
      clear HNO HRM HYS HFR hbq HRG
      go_wp2_with (refine wLP rfl rfl (by first | rfl | simp [aE, aP]) hQ4 ?_)
      refine (base_fr q A4 c4 _ hfq (Sl.of_own ho4)).mono ?_
      rintro e w5 ⟨A6, c6, rfl, h6, hb6, hr6⟩
      rw [HB.out]
      have hQ6 := hQ4.below hb6 hQ4.lt
      have hZ6 := hZ4.below hb6 hZ4.lt
      have hB6 := bG_ hB4 hb6
      have ho6 := oBl ho4 hb6
      go_wp2_with (first
        | (refine wLP rfl rfl (by first | rfl | simp [aE, aP]) hQ6 ?_)
        | (refine wSP rfl rfl (by first | rfl | simp [aE, aP]) (by first | rfl | simp [aE, aP]) hZ6 ?_; intro w7 hZ7 hr7))
      refine bodyPost_ret (rP3 rfl _ _ (w.heap.size + 2) rfl hZ7) rfl ?_
      rw [HE.out]
      exact ⟨A4, c4, rfl, Sl.of_own (own_one ho6 hr7 (by omega)), hB6.trans (hr7.below (n := w.heap.size) (by omega))⟩
    | false =>
      have HE := hd_ (HRM.out rfl hbq)
      have HB := hd_ hbq
      clear HNO HRM HYS HFR hbq HRG
      go_wp2_with (refine wLP rfl rfl (by first | rfl | simp [aE, aP]) hQ4 ?_)
      refine (base_fr q A4 c4 _ hfq (Sl.of_own ho4)).mono ?_
      rintro e w5 ⟨A6, c6, rfl, h6, hb6, hr6⟩
      rw [HB.out]
      have hP6 := hP4.below hb6 hP4.lt
      have hZ6 := hZ4.below hb6 hZ4.lt
      have hB6 := bG_ hB4 hb6
      go_wp2_with (first
        | (refine wLP rfl rfl (by first | rfl | simp [aE, aP]) hP6 ?_)
        | (refine wSP rfl rfl (by first | rfl | simp [aE, aP]) (by first | rfl | simp [aE, aP]) hZ6 ?_; intro w7 hZ7 hr7))
      refine bodyPost_ret (rP3 rfl _ _ (w.heap.size + 2) rfl hZ7) rfl ?_
      rw [HE.out]
      have hB7 := hB6.trans (hr7.below (n := w.heap.size) (by omega))
      exact ⟨A, c, rfl, Sl.below hin hB7, hB7⟩
  · have HE := hd_ (HNO.out he)
    have he' : (er == 0) = false := by simpa using he
    obtain ⟨r1, r2⟩ := HRG.out
    clear HNO HRM HYS HFR HRG
    go_wp2_with (first
      | (refine wLP rfl rfl (by first | rfl | simp [aE, aP]) hP4 ?_)
      | (refine wSP rfl rfl (by first | rfl | simp [aE, aP]) (by first | rfl | simp [aE, aP]) hZ4 ?_; intro w7 hZ7 hr7))
    refine bodyPost_ret (rP3 rfl _ _ (w.heap.size + 2) rfl hZ7) rfl ?_
    rw [HE.out]
    have hB7 := hB4.trans (hr7.below (n := w.heap.size) (by omega))
    exact ⟨A, c, rfl, Sl.below hin hB7, hB7⟩
theorem cells_setK (l : List Ship) : ∀ (k j : Nat) (v : Value) (s : Ship), k < l.length -> j < 6 -> (shipV (l.getD k Ship.zero)).toList.set j v = (shipV s).toList -> (shC l).set (k * 6 + j) v = shC (l.set k s) := by
  induction l with
  | nil => intro k j v s h; simp at h
  | cons q l ih =>
    intro k j v s h hj e
    have hl : (shipV q).toList.length = 6 := rfl
    cases k with
    | zero =>
      simp only [List.getD_cons_zero] at e
      simp only [shC, Nat.zero_mul, Nat.zero_add, List.set_cons_zero]
      rw [List.set_append_left _ _ (by omega), e]
    | succ k =>
      simp only [List.getD_cons_succ] at e
      simp only [shC, List.set_cons_succ]
      rw [List.set_append_right _ _ (by omega), hl, show (k + 1) * 6 + j - 6 = k * 6 + j by omega, ih k j v s (by simpa using h) hj e]
theorem ownK_set {w : World} {base b c k j : Nat} {v : Value} {l : List Ship} {s : Ship} (h : OwnK w base (.slice (some ⟨b, 0, none⟩) l.length c) l) (hk : k < l.length) (hj : j < 6) (e : (shipV (l.getD k Ship.zero)).toList.set j v = (shipV s).toList) :
    OwnK (w.setCell ⟨b, k * 6 + j, none⟩ v) base (.slice (some ⟨b, 0, none⟩) (l.set k s).length c) (l.set k s) := by
  have h1 := (World.ownsRow.stored h (k * 6 + j) v).1
  rw [cells_setK l k j v s hk hj e] at h1
  unfold OwnK
  rw [List.length_set]
  exact h1
theorem ownK_at {w : World} {base c : Nat} {A : Option Addr} {l : List Ship} (h : OwnK w base (.slice A l.length c) l) (hl : 0 < l.length) : ∃ b, A = some ⟨b, 0, none⟩ /\ base <= b /\ b < w.heap.size := by
  rcases h.2 with ⟨hv, hn⟩ | ⟨g, cap, cur, hv, h1, h2, _⟩
  · omega
  · injection hv with e1 _ e2
    exact ⟨g, e1, h1, (Array.getElem?_eq_some_iff.1 h2).1⟩
theorem contains_any (gs c : Nat) (xs : List Int) (x : Int) (w : World) (hm : xs.length <= 100) (hc : ∀ j, j < xs.length -> w.cell? ⟨gs, j, none⟩ = some (.int .i64 (xs.getD j 0))) :
    Calls Tryz.prog 113 #[.slice (some ⟨gs, 0, none⟩) xs.length c, .int .i64 x] w fun e w' => e = .returned (.bool (decide (x ∈ xs))) /\ w' = w := by
  have h := Tryz.slices_Contains_int gs 0 xs.length c xs x w (Nat.le_refl _) (by omega) (fun j hj => by rw [Nat.zero_add]; exact hc j hj)
  refine h.mono fun e w' ⟨he, hw⟩ => ⟨?_, hw⟩
  rw [he, List.take_length]
  exact rtB (by rw [Bool.eq_iff_iff]; simp)
def RetShip (p : Port) (A : Option Addr) (n : Int) (xs : List Int) (w : World) (e : Ending) (w' : World) : Prop :=
  ∃ v, e = .returned (.tuple #[v, .int .i64 (shipE p n xs)]) /\ w' = w /\ (shipE p n xs = 0 -> ∃ b off, A = some ⟨b, off, none⟩ /\ v = .pointer (some ⟨b, off + n.toNat * 6, none⟩))
set_option maxRecDepth 100000 in
theorem ship_any (p : Port) (A : Option Addr) (c g gs cs : Nat) (n : Int) (xs : List Int) (w : World) (hP : PortAt w g p A c) (hin : InP w p A) (hl : p.ships.length <= 14) (hm : xs.length <= 100)
    (hc : ∀ j, j < xs.length -> w.cell? ⟨gs, j, none⟩ = some (.int .i64 (xs.getD j 0))) :
    Calls Tryz.prog 84 #[.pointer (some ⟨g, 0, none⟩), .int .i64 n, .slice (some ⟨gs, 0, none⟩) xs.length cs] w (RetShip p A n xs w) := by
  have q1 := hP.ships
  have HE := hd_ (show shipE p n xs = if n < 0 \/ (p.ships.length : Int) <= n then 3 else if (p.ship n.toNat).state ∈ xs then 0 else 4 from rfl)
  by_cases h1 : n < 0
  · have HR := hd_ (show shipE p n xs = 3 by rw [HE.out, if_pos (.inl h1)])
    clear HE hc
    go_enter Tryz.func84, Tryz.ntmps84
    go_wp2_with fail
    go_ret2
    exact ⟨.pointer none, by rw [HR.out]; rfl, rfl, fun h => by rw [HR.out] at h; cases h⟩
  · have d1 : decide (n < 0) = false := by simpa using h1
    by_cases h2 : (p.ships.length : Int) <= n
    · have HR := hd_ (show shipE p n xs = 3 by rw [HE.out, if_pos (.inr h2)])
      clear HE hc
      go_enter Tryz.func84, Tryz.ntmps84
      go_wp2_with fail
      go_ret2
      exact ⟨.pointer none, by rw [HR.out]; rfl, rfl, fun h => by rw [HR.out] at h; cases h⟩
    · have d2 : decide ((p.ships.length : Int) <= n) = false := by simpa using h2
      obtain ⟨k, rfl⟩ : ∃ k : Nat, n = k := ⟨n.toNat, by omega⟩
      have hk : k < p.ships.length := by omega
      obtain ⟨b, off, hA, hbl, hcells⟩ := ships_at hin (by omega)
      subst hA
      obtain ⟨e1, _⟩ := hcells k hk
      change w.cell? _ = some (.int .i64 (p.ship k).state) at e1
      rw [Int.toNat_natCast] at HE
      generalize hst : (p.ship k).state = st at e1 HE
      have HC := hd_ hc
      clear hcells hc hst
      by_cases h3 : st ∈ xs
      · have HR := hd_ (show shipE p k xs = 0 by rw [HE.out, if_neg (by omega), if_pos h3])
        have HB := hd_ (show decide (st ∈ xs) = true by simpa using h3)
        clear HE h3
        go_enter Tryz.func84, Tryz.ntmps84
        go_wp2_with (go_at_call 113; refine (contains_any gs cs xs st _ hm HC.out).mono ?_; rintro e w' ⟨rfl, rfl⟩; rw [HB.out])
        go_ret2
        exact ⟨_, by rw [HR.out]; rfl, rfl, fun _ => ⟨b, off, rfl, by simp⟩⟩
      · have HR := hd_ (show shipE p k xs = 4 by rw [HE.out, if_neg (by omega), if_neg h3])
        have HB := hd_ (show decide (st ∈ xs) = false by simpa using h3)
        clear HE h3
        go_enter Tryz.func84, Tryz.ntmps84
        go_wp2_with (go_at_call 113; refine (contains_any gs cs xs st _ hm HC.out).mono ?_; rintro e w' ⟨rfl, rfl⟩; rw [HB.out])
        go_ret2
        exact ⟨.pointer none, by rw [HR.out]; rfl, rfl, fun h => by rw [HR.out] at h; cases h⟩
theorem own_state {w : World} {base b c k : Nat} {x : Int} {l : List Ship} (h : OwnK w base (.slice (some ⟨b, 0, none⟩) l.length c) l) (hk : k < l.length) :
    OwnK (w.setCell ⟨b, k * 6, none⟩ (.int .i64 x)) base (.slice (some ⟨b, 0, none⟩) (l.set k { l.getD k Ship.zero with state := x }).length c) (l.set k { l.getD k Ship.zero with state := x }) := by
  have := ownK_set (j := 0) (v := .int .i64 x) (s := { l.getD k Ship.zero with state := x }) h hk (by omega) (by simp [shipV])
  simpa using this
theorem own_long {w : World} {base b c k : Nat} {x : Int} {l : List Ship} (h : OwnK w base (.slice (some ⟨b, 0, none⟩) l.length c) l) (hk : k < l.length) :
    OwnK (w.setCell ⟨b, k * 6 + 2, none⟩ (.int .i64 x)) base (.slice (some ⟨b, 0, none⟩) (l.set k { l.getD k Ship.zero with long := x }).length c) (l.set k { l.getD k Ship.zero with long := x }) :=
  ownK_set (j := 2) (v := .int .i64 x) (s := { l.getD k Ship.zero with long := x }) h hk (by omega) (by simp [shipV])
theorem getD_setK (l : List Ship) (k : Nat) (s : Ship) (hk : k < l.length) : (l.set k s).getD k Ship.zero = s := by
  rw [List.getD_eq_getElem?_getD, List.getElem?_set_self hk]; rfl
theorem own_gone {w : World} {base b c k : Nat} {x y : Int} {l : List Ship} (h : OwnK w base (.slice (some ⟨b, 0, none⟩) l.length c) l) (hk : k < l.length) :
    OwnK ((w.setCell ⟨b, k * 6, none⟩ (.int .i64 x)).setCell ⟨b, k * 6 + 4, none⟩ (.int .i64 y)) base (.slice (some ⟨b, 0, none⟩) (l.set k { l.getD k Ship.zero with state := x, since := y }).length c) (l.set k { l.getD k Ship.zero with state := x, since := y }) := by
  have h1 := own_state (x := x) h hk
  have h2 := ownK_set (k := k) (j := 4) (v := .int .i64 y) (s := { l.getD k Ship.zero with state := x, since := y }) h1 (by rw [List.length_set]; exact hk) (by omega) (by rw [getD_setK _ _ _ hk]; simp [shipV])
  rw [List.set_set] at h2
  exact h2
structure Found (p : Port) (g base b c k : Nat) (w : World) : Prop where
  port : PortAt w g p (some ⟨b, 0, none⟩) c
  own : OwnK w base (.slice (some ⟨b, 0, none⟩) p.ships.length c) p.ships
  ne : b ≠ g
  lt : k < p.ships.length
  cells : ∀ j, j < 6 -> w.cell? ⟨b, k * 6 + j, none⟩ = (shipV (p.ship k))[j]?
  ice : ∀ j, w.frozen? ⟨b, j, none⟩ = false
  base : base <= b
  blk : b < w.heap.size
theorem found {p : Port} {A : Option Addr} {g base b off c k : Nat} {w : World} (hP : PortAt w g p A c) (ho : OwnK w base (.slice A p.ships.length c) p.ships) (hog : (Value.slice A p.ships.length c).ownBlock ≠ some g) (hk : k < p.ships.length) (hA : A = some ⟨b, off, none⟩) :
    off = 0 /\ Found p g base b c k w := by
  obtain ⟨b', e, h1, h2⟩ := ownK_at ho (by omega)
  rw [hA] at e
  injection e with e
  injection e with e1 e2
  subst e1; subst e2; subst hA
  refine ⟨rfl, hP, ho, fun e => hog (by rw [e]; rfl), hk, fun j hj => ?_, fun j => ho.frozenAt j, h1, h2⟩
  have hs : Sl w 6 (some ⟨b, 0, none⟩) p.ships.length (shC p.ships) := Sl.of_own ho
  obtain ⟨b2, off2, e2, hc⟩ := hs.2 (by omega)
  injection e2 with e2
  injection e2 with e3 e4
  subst e3; subst e4
  have := hc (k * 6 + j) (by omega)
  rw [Nat.zero_add, shipCells_get _ k j hk hj] at this
  exact this
set_option maxRecDepth 100000 in
theorem tell_leave (p : Port) (A : Option Addr) (c g base : Nat) (oa ob oc : Int) (w : World) (hP : PortAt w g p A c) (hown : OwnK w base (.slice A p.ships.length c) p.ships) (hog : (Value.slice A p.ships.length c).ownBlock ≠ some g) (hgb : base <= g) (hbs : base <= w.heap.size) (hl : p.ships.length <= 14) :
    Calls Tryz.prog 55 #[.pointer (some ⟨g, 0, none⟩), .agg (orA ⟨2, oa, ob, oc⟩)] w (RetTell g base (tell1 p ⟨2, oa, ob, oc⟩) w) := by
  have hP2 := (hP.alloc (.cells (orA ⟨2, oa, ob, oc⟩) 41)).alloc (.cells #[.int .i64 1, .int .i64 2, .int .i64 3] 3)
  have ho2 : OwnK ((w.alloc (.cells (orA ⟨2, oa, ob, oc⟩) 41)).alloc (.cells #[.int .i64 1, .int .i64 2, .int .i64 3] 3)) base (.slice A p.ships.length c) p.ships := (World.ownsRow.alloc hown _).alloc _
  have hb2 : Below base w ((w.alloc (.cells (orA ⟨2, oa, ob, oc⟩) 41)).alloc (.cells #[.int .i64 1, .int .i64 2, .int .i64 3] 3)) := (((Below.refl _ _).alloc (Nat.le_refl _) _).alloc (by simp) _).mono hbs
  have hc2 : ∀ j, j < [1, 2, 3].length -> ((w.alloc (.cells (orA ⟨2, oa, ob, oc⟩) 41)).alloc (.cells #[.int .i64 1, .int .i64 2, .int .i64 3] 3)).cell? ⟨w.heap.size + 1, j, none⟩ = some (.int .i64 (([1, 2, 3] : List Int).getD j 0)) := fun j hj => by
    have hn := heap_alloc_new (w.alloc (.cells (orA ⟨2, oa, ob, oc⟩) 41)) (.cells #[.int .i64 1, .int .i64 2, .int .i64 3] 3)
    rw [show (w.alloc (.cells (orA ⟨2, oa, ob, oc⟩) 41)).heap.size = w.heap.size + 1 by simp] at hn
    rw [cell_of_row _ (w.heap.size + 1) j _ _ _ hn]
    simp only [List.length_cons, List.length_nil] at hj
    rcases (by omega : j = 0 \/ j = 1 \/ j = 2) with rfl | rfl | rfl <;> rfl
  have hor : ((w.alloc (.cells (orA ⟨2, oa, ob, oc⟩) 41)).alloc (.cells #[.int .i64 1, .int .i64 2, .int .i64 3] 3)).cell? ⟨w.heap.size, 2, none⟩ = some (.int .i64 ob) :=
    (World.cell?_alloc_lt _ _ ⟨w.heap.size, 2, none⟩ (by simp)).trans (by rw [cell_of_row _ w.heap.size 2 _ _ _ (heap_alloc_new w _)]; rfl)
  have HT := hd_ (show tell1 p ⟨2, oa, ob, oc⟩ = if shipE p oa [1, 2, 3] = 0 then (p.setShip oa.toNat { p.ship oa.toNat with state := 4, since := 0 }, 0, 0) else (p, 0, shipE p oa [1, 2, 3]) from rfl)
  have hlt2 := hP2.lt
  have hgs := hP.lt
  simp only [orA] at hP2 ho2 hb2 hc2 hlt2 hor ⊢
  clear hP hown
  go_enter Tryz.func55, Tryz.ntmps55
  go_wp2_with fail
  refine (ship_any p A c g (w.heap.size + 1) 3 oa [1, 2, 3] _ hP2 (Sl.of_own ho2) hl (by decide) hc2).mono ?_
  rintro e w' ⟨v, rfl, rfl, hv⟩
  generalize hse : shipE p oa [1, 2, 3] = se at *
  generalize (w.alloc (.cells #[.int .i64 2, .int .i64 oa, .int .i64 ob, .int .i64 oc] 41)).alloc (.cells #[.int .i64 1, .int .i64 2, .int .i64 3] 3) = wr at *
  clear hc2
  by_cases he : se = 0
  · subst he
    have hok := shipE_ok hse
    obtain ⟨b, off, hA, rfl⟩ := hv rfl
    obtain ⟨rfl, F⟩ := found hP2 ho2 hog hok.2.1 hA
    subst hA
    have HE := hd_ hse
    clear hse hv hog
    rw [Nat.zero_add]
    generalize oa.toNat = k at *
    have c0 := F.cells 0 (by omega)
    have c2 := F.cells 2 (by omega)
    have c4 := F.cells 4 (by omega)
    rw [Nat.add_zero] at c0
    simp only [shipV] at c0 c2 c4
    have i0 := F.ice (k * 6)
    have i2 := F.ice (k * 6 + 2)
    have i4 := F.ice (k * 6 + 4)
    have hnbg : b ≠ g := F.ne
    have hogb : (Value.slice (some ⟨b, 0, none⟩) p.ships.length c).ownBlock ≠ some g := fun e => hnbg (by simpa [Value.ownBlock] using e)
    have hFb := F.base
    have HR := hd_ (show tell1 p ⟨2, oa, ob, oc⟩ = (p.setShip k { p.ship k with state := 4, since := 0 }, 0, 0) by rw [HT.out, if_pos rfl])
    have HO := hd_ (own_gone (x := 4) (y := 0) F.own F.lt)
    have HP := hd_ ((F.port.beside ⟨b, k * 6, none⟩ (.int .i64 4) (by simpa using hnbg)).beside ⟨b, k * 6 + 4, none⟩ (.int .i64 0) (by simpa using hnbg))
    have HB := hd_ ((hb2.setCell (p := ⟨b, k * 6, none⟩) hFb (.int .i64 4)).setCell (p := ⟨b, k * 6 + 4, none⟩) hFb (.int .i64 0))
    clear HT F
    go_wp2_with fail
    go_ret2
    rw [HR.out]
    refine ⟨some ⟨b, 0, none⟩, c, rfl, ?_, HO.out, by simpa [Port.setShip] using hogb, HB.out⟩
    have := HP.out
    unfold PortAt at this ⊢
    simpa [portA, Port.setShip, Port.keep] using this
  · have hse' : (se == 0) = false := by simpa using he
    have HR := hd_ (show tell1 p ⟨2, oa, ob, oc⟩ = (p, 0, se) by rw [HT.out, if_neg he])
    clear HT hv
    go_wp2_with fail
    go_ret2
    rw [HR.out]
    exact ⟨A, c, rfl, hP2, ho2, hog, hb2⟩
set_option maxRecDepth 100000 in
theorem tell_hold (p : Port) (A : Option Addr) (c g base : Nat) (oa ob oc : Int) (w : World) (hP : PortAt w g p A c) (hown : OwnK w base (.slice A p.ships.length c) p.ships) (hog : (Value.slice A p.ships.length c).ownBlock ≠ some g) (hgb : base <= g) (hbs : base <= w.heap.size) (hl : p.ships.length <= 14) :
    Calls Tryz.prog 55 #[.pointer (some ⟨g, 0, none⟩), .agg (orA ⟨3, oa, ob, oc⟩)] w (RetTell g base (tell1 p ⟨3, oa, ob, oc⟩) w) := by
  have hP2 := (hP.alloc (.cells (orA ⟨3, oa, ob, oc⟩) 41)).alloc (.cells #[.int .i64 1] 3)
  have ho2 : OwnK ((w.alloc (.cells (orA ⟨3, oa, ob, oc⟩) 41)).alloc (.cells #[.int .i64 1] 3)) base (.slice A p.ships.length c) p.ships := (World.ownsRow.alloc hown _).alloc _
  have hb2 : Below base w ((w.alloc (.cells (orA ⟨3, oa, ob, oc⟩) 41)).alloc (.cells #[.int .i64 1] 3)) := (((Below.refl _ _).alloc (Nat.le_refl _) _).alloc (by simp) _).mono hbs
  have hc2 : ∀ j, j < [1].length -> ((w.alloc (.cells (orA ⟨3, oa, ob, oc⟩) 41)).alloc (.cells #[.int .i64 1] 3)).cell? ⟨w.heap.size + 1, j, none⟩ = some (.int .i64 (([1] : List Int).getD j 0)) := fun j hj => by
    have hn := heap_alloc_new (w.alloc (.cells (orA ⟨3, oa, ob, oc⟩) 41)) (.cells #[.int .i64 1] 3)
    rw [show (w.alloc (.cells (orA ⟨3, oa, ob, oc⟩) 41)).heap.size = w.heap.size + 1 by simp] at hn
    rw [cell_of_row _ (w.heap.size + 1) j _ _ _ hn]
    simp only [List.length_cons, List.length_nil] at hj
    obtain rfl : j = 0 := by omega
    rfl
  have hor : ((w.alloc (.cells (orA ⟨3, oa, ob, oc⟩) 41)).alloc (.cells #[.int .i64 1] 3)).cell? ⟨w.heap.size, 2, none⟩ = some (.int .i64 ob) :=
    (World.cell?_alloc_lt _ _ ⟨w.heap.size, 2, none⟩ (by simp)).trans (by rw [cell_of_row _ w.heap.size 2 _ _ _ (heap_alloc_new w _)]; rfl)
  have HT := hd_ (show tell1 p ⟨3, oa, ob, oc⟩ = if shipE p oa [1] = 0 then (p.setShip oa.toNat { p.ship oa.toNat with state := 2 }, 0, 0) else (p, 0, shipE p oa [1]) from rfl)
  have hlt2 := hP2.lt
  have hgs := hP.lt
  simp only [orA] at hP2 ho2 hb2 hc2 hlt2 hor ⊢
  clear hP hown
  go_enter Tryz.func55, Tryz.ntmps55
  go_wp2_with fail
  refine (ship_any p A c g (w.heap.size + 1) 1 oa [1] _ hP2 (Sl.of_own ho2) hl (by decide) hc2).mono ?_
  rintro e w' ⟨v, rfl, rfl, hv⟩
  generalize hse : shipE p oa [1] = se at *
  generalize (w.alloc (.cells #[.int .i64 3, .int .i64 oa, .int .i64 ob, .int .i64 oc] 41)).alloc (.cells #[.int .i64 1] 3) = wr at *
  clear hc2
  by_cases he : se = 0
  · subst he
    have hok := shipE_ok hse
    obtain ⟨b, off, hA, rfl⟩ := hv rfl
    obtain ⟨rfl, F⟩ := found hP2 ho2 hog hok.2.1 hA
    subst hA
    have HE := hd_ hse
    clear hse hv hog
    rw [Nat.zero_add]
    generalize oa.toNat = k at *
    have c0 := F.cells 0 (by omega)
    have c2 := F.cells 2 (by omega)
    have c4 := F.cells 4 (by omega)
    rw [Nat.add_zero] at c0
    simp only [shipV] at c0 c2 c4
    have i0 := F.ice (k * 6)
    have i2 := F.ice (k * 6 + 2)
    have i4 := F.ice (k * 6 + 4)
    have hnbg : b ≠ g := F.ne
    have hogb : (Value.slice (some ⟨b, 0, none⟩) p.ships.length c).ownBlock ≠ some g := fun e => hnbg (by simpa [Value.ownBlock] using e)
    have hFb := F.base
    have HR := hd_ (show tell1 p ⟨3, oa, ob, oc⟩ = (p.setShip k { p.ship k with state := 2 }, 0, 0) by rw [HT.out, if_pos rfl])
    have HO := hd_ (own_state (x := 2) F.own F.lt)
    have HP := hd_ (F.port.beside ⟨b, k * 6, none⟩ (.int .i64 2) (by simpa using hnbg))
    have HB := hd_ (hb2.setCell (p := ⟨b, k * 6, none⟩) hFb (.int .i64 2))
    clear HT F
    go_wp2_with fail
    go_ret2
    rw [HR.out]
    refine ⟨some ⟨b, 0, none⟩, c, rfl, ?_, HO.out, by simpa [Port.setShip] using hogb, HB.out⟩
    have := HP.out
    unfold PortAt at this ⊢
    simpa [portA, Port.setShip, Port.keep] using this
  · have hse' : (se == 0) = false := by simpa using he
    have HR := hd_ (show tell1 p ⟨3, oa, ob, oc⟩ = (p, 0, se) by rw [HT.out, if_neg he])
    clear HT hv
    go_wp2_with fail
    go_ret2
    rw [HR.out]
    exact ⟨A, c, rfl, hP2, ho2, hog, hb2⟩
set_option maxRecDepth 100000 in
theorem tell_free (p : Port) (A : Option Addr) (c g base : Nat) (oa ob oc : Int) (w : World) (hP : PortAt w g p A c) (hown : OwnK w base (.slice A p.ships.length c) p.ships) (hog : (Value.slice A p.ships.length c).ownBlock ≠ some g) (hgb : base <= g) (hbs : base <= w.heap.size) (hl : p.ships.length <= 14) :
    Calls Tryz.prog 55 #[.pointer (some ⟨g, 0, none⟩), .agg (orA ⟨4, oa, ob, oc⟩)] w (RetTell g base (tell1 p ⟨4, oa, ob, oc⟩) w) := by
  have hP2 := (hP.alloc (.cells (orA ⟨4, oa, ob, oc⟩) 41)).alloc (.cells #[.int .i64 2] 3)
  have ho2 : OwnK ((w.alloc (.cells (orA ⟨4, oa, ob, oc⟩) 41)).alloc (.cells #[.int .i64 2] 3)) base (.slice A p.ships.length c) p.ships := (World.ownsRow.alloc hown _).alloc _
  have hb2 : Below base w ((w.alloc (.cells (orA ⟨4, oa, ob, oc⟩) 41)).alloc (.cells #[.int .i64 2] 3)) := (((Below.refl _ _).alloc (Nat.le_refl _) _).alloc (by simp) _).mono hbs
  have hc2 : ∀ j, j < [2].length -> ((w.alloc (.cells (orA ⟨4, oa, ob, oc⟩) 41)).alloc (.cells #[.int .i64 2] 3)).cell? ⟨w.heap.size + 1, j, none⟩ = some (.int .i64 (([2] : List Int).getD j 0)) := fun j hj => by
    have hn := heap_alloc_new (w.alloc (.cells (orA ⟨4, oa, ob, oc⟩) 41)) (.cells #[.int .i64 2] 3)
    rw [show (w.alloc (.cells (orA ⟨4, oa, ob, oc⟩) 41)).heap.size = w.heap.size + 1 by simp] at hn
    rw [cell_of_row _ (w.heap.size + 1) j _ _ _ hn]
    simp only [List.length_cons, List.length_nil] at hj
    obtain rfl : j = 0 := by omega
    rfl
  have hor : ((w.alloc (.cells (orA ⟨4, oa, ob, oc⟩) 41)).alloc (.cells #[.int .i64 2] 3)).cell? ⟨w.heap.size, 2, none⟩ = some (.int .i64 ob) :=
    (World.cell?_alloc_lt _ _ ⟨w.heap.size, 2, none⟩ (by simp)).trans (by rw [cell_of_row _ w.heap.size 2 _ _ _ (heap_alloc_new w _)]; rfl)
  have HT := hd_ (show tell1 p ⟨4, oa, ob, oc⟩ = if shipE p oa [2] = 0 then (p.setShip oa.toNat { p.ship oa.toNat with state := 1 }, 0, 0) else (p, 0, shipE p oa [2]) from rfl)
  have hlt2 := hP2.lt
  have hgs := hP.lt
  simp only [orA] at hP2 ho2 hb2 hc2 hlt2 hor ⊢
  clear hP hown
  go_enter Tryz.func55, Tryz.ntmps55
  go_wp2_with fail
  refine (ship_any p A c g (w.heap.size + 1) 1 oa [2] _ hP2 (Sl.of_own ho2) hl (by decide) hc2).mono ?_
  rintro e w' ⟨v, rfl, rfl, hv⟩
  generalize hse : shipE p oa [2] = se at *
  generalize (w.alloc (.cells #[.int .i64 4, .int .i64 oa, .int .i64 ob, .int .i64 oc] 41)).alloc (.cells #[.int .i64 2] 3) = wr at *
  clear hc2
  by_cases he : se = 0
  · subst he
    have hok := shipE_ok hse
    obtain ⟨b, off, hA, rfl⟩ := hv rfl
    obtain ⟨rfl, F⟩ := found hP2 ho2 hog hok.2.1 hA
    subst hA
    have HE := hd_ hse
    clear hse hv hog
    rw [Nat.zero_add]
    generalize oa.toNat = k at *
    have c0 := F.cells 0 (by omega)
    have c2 := F.cells 2 (by omega)
    have c4 := F.cells 4 (by omega)
    rw [Nat.add_zero] at c0
    simp only [shipV] at c0 c2 c4
    have i0 := F.ice (k * 6)
    have i2 := F.ice (k * 6 + 2)
    have i4 := F.ice (k * 6 + 4)
    have hnbg : b ≠ g := F.ne
    have hogb : (Value.slice (some ⟨b, 0, none⟩) p.ships.length c).ownBlock ≠ some g := fun e => hnbg (by simpa [Value.ownBlock] using e)
    have hFb := F.base
    have HR := hd_ (show tell1 p ⟨4, oa, ob, oc⟩ = (p.setShip k { p.ship k with state := 1 }, 0, 0) by rw [HT.out, if_pos rfl])
    have HO := hd_ (own_state (x := 1) F.own F.lt)
    have HP := hd_ (F.port.beside ⟨b, k * 6, none⟩ (.int .i64 1) (by simpa using hnbg))
    have HB := hd_ (hb2.setCell (p := ⟨b, k * 6, none⟩) hFb (.int .i64 1))
    clear HT F
    go_wp2_with fail
    go_ret2
    rw [HR.out]
    refine ⟨some ⟨b, 0, none⟩, c, rfl, ?_, HO.out, by simpa [Port.setShip] using hogb, HB.out⟩
    have := HP.out
    unfold PortAt at this ⊢
    simpa [portA, Port.setShip, Port.keep] using this
  · have hse' : (se == 0) = false := by simpa using he
    have HR := hd_ (show tell1 p ⟨4, oa, ob, oc⟩ = (p, 0, se) by rw [HT.out, if_neg he])
    clear HT hv
    go_wp2_with fail
    go_ret2
    rw [HR.out]
    exact ⟨A, c, rfl, hP2, ho2, hog, hb2⟩
set_option maxRecDepth 100000 in
theorem tell_change (p : Port) (A : Option Addr) (c g base : Nat) (oa ob oc : Int) (w : World) (hP : PortAt w g p A c) (hown : OwnK w base (.slice A p.ships.length c) p.ships) (hog : (Value.slice A p.ships.length c).ownBlock ≠ some g) (hgb : base <= g) (hbs : base <= w.heap.size) (hl : p.ships.length <= 14) (hfair : Plain.Fair p) :
    Calls Tryz.prog 55 #[.pointer (some ⟨g, 0, none⟩), .agg (orA ⟨5, oa, ob, oc⟩)] w (RetTell g base (tell1 p ⟨5, oa, ob, oc⟩) w) := by
  have hP2 := (hP.alloc (.cells (orA ⟨5, oa, ob, oc⟩) 41)).alloc (.cells #[.int .i64 1, .int .i64 2, .int .i64 3] 3)
  have ho2 : OwnK ((w.alloc (.cells (orA ⟨5, oa, ob, oc⟩) 41)).alloc (.cells #[.int .i64 1, .int .i64 2, .int .i64 3] 3)) base (.slice A p.ships.length c) p.ships := (World.ownsRow.alloc hown _).alloc _
  have hb2 : Below base w ((w.alloc (.cells (orA ⟨5, oa, ob, oc⟩) 41)).alloc (.cells #[.int .i64 1, .int .i64 2, .int .i64 3] 3)) := (((Below.refl _ _).alloc (Nat.le_refl _) _).alloc (by simp) _).mono hbs
  have hc2 : ∀ j, j < [1, 2, 3].length -> ((w.alloc (.cells (orA ⟨5, oa, ob, oc⟩) 41)).alloc (.cells #[.int .i64 1, .int .i64 2, .int .i64 3] 3)).cell? ⟨w.heap.size + 1, j, none⟩ = some (.int .i64 (([1, 2, 3] : List Int).getD j 0)) := fun j hj => by
    have hn := heap_alloc_new (w.alloc (.cells (orA ⟨5, oa, ob, oc⟩) 41)) (.cells #[.int .i64 1, .int .i64 2, .int .i64 3] 3)
    rw [show (w.alloc (.cells (orA ⟨5, oa, ob, oc⟩) 41)).heap.size = w.heap.size + 1 by simp] at hn
    rw [cell_of_row _ (w.heap.size + 1) j _ _ _ hn]
    simp only [List.length_cons, List.length_nil] at hj
    rcases (by omega : j = 0 \/ j = 1 \/ j = 2) with rfl | rfl | rfl <;> rfl
  have hor : ((w.alloc (.cells (orA ⟨5, oa, ob, oc⟩) 41)).alloc (.cells #[.int .i64 1, .int .i64 2, .int .i64 3] 3)).cell? ⟨w.heap.size, 2, none⟩ = some (.int .i64 ob) :=
    (World.cell?_alloc_lt _ _ ⟨w.heap.size, 2, none⟩ (by simp)).trans (by rw [cell_of_row _ w.heap.size 2 _ _ _ (heap_alloc_new w _)]; rfl)
  have HT := hd_ (show tell1 p ⟨5, oa, ob, oc⟩ = if shipE p oa [1, 2, 3] = 0 then (if ¬ (1 <= ob /\ ob <= 300) \/ ((p.ship oa.toNat).state = 3 /\ ((p.ship oa.toNat).since + ob <= p.now \/ 300 < (p.ship oa.toNat).since + ob)) then (p, 0, 2) else (p.setShip oa.toNat { p.ship oa.toNat with long := ob }, 0, 0)) else (p, 0, shipE p oa [1, 2, 3]) from rfl)
  have hlt2 := hP2.lt
  have hgs := hP.lt
  simp only [orA] at hP2 ho2 hb2 hc2 hlt2 hor ⊢
  clear hP hown
  go_enter Tryz.func55, Tryz.ntmps55
  go_wp2_with fail
  refine (ship_any p A c g (w.heap.size + 1) 3 oa [1, 2, 3] _ hP2 (Sl.of_own ho2) hl (by decide) hc2).mono ?_
  rintro e w' ⟨v, rfl, rfl, hv⟩
  generalize hse : shipE p oa [1, 2, 3] = se at *
  generalize (w.alloc (.cells #[.int .i64 5, .int .i64 oa, .int .i64 ob, .int .i64 oc] 41)).alloc (.cells #[.int .i64 1, .int .i64 2, .int .i64 3] 3) = wr at *
  clear hc2
  by_cases he : se = 0
  · subst he
    have hok := shipE_ok hse
    obtain ⟨b, off, hA, rfl⟩ := hv rfl
    obtain ⟨rfl, F⟩ := found hP2 ho2 hog hok.2.1 hA
    subst hA
    have HE := hd_ hse
    clear hse hv hog
    rw [Nat.zero_add]
    generalize oa.toNat = k at *
    have c0 := F.cells 0 (by omega)
    have c2 := F.cells 2 (by omega)
    have c4 := F.cells 4 (by omega)
    rw [Nat.add_zero] at c0
    simp only [shipV] at c0 c2 c4
    have i0 := F.ice (k * 6)
    have i2 := F.ice (k * 6 + 2)
    have i4 := F.ice (k * 6 + 4)
    have hnbg : b ≠ g := F.ne
    have hogb : (Value.slice (some ⟨b, 0, none⟩) p.ships.length c).ownBlock ≠ some g := fun e => hnbg (by simpa [Value.ownBlock] using e)
    have hFb := F.base
    have hsi : (p.ship k).state = 3 -> 0 <= (p.ship k).since /\ (p.ship k).since <= 300 := fun h => by have h1 := (hfair.ship k F.lt).1.lies h; have h2 := (hfair.ship k F.lt).1.long; omega
    have hnow := F.port.now
    have hn := hfair.now
    have hw4 := hfair.ship k F.lt
    generalize hst : (p.ship k).state = st at c0 hsi
    generalize hsn : (p.ship k).since = sn at c4 hsi
    have HST := hd_ hst
    have HSN := hd_ hsn
    clear hst hsn
    by_cases hob : inB ob 1 300 = true
    · have HS := hd_ hob
      obtain ⟨b1, b2⟩ := (inB_iff _ _ _).1 hob
      clear hob
      by_cases h3 : st = 3
      · obtain ⟨s1, s2⟩ := hsi h3
        have d3 : (st == 3) = true := by simpa using h3
        by_cases h4 : sn + ob <= p.now
        · have d4 : decide (sn + ob <= p.now) = true := by simpa using h4
          have HR := hd_ (show tell1 p ⟨5, oa, ob, oc⟩ = (p, 0, 2) by rw [HT.out, if_pos rfl, if_pos (by rw [HST.out, HSN.out]; omega)])
          have HO := hd_ F.own
          have HP := hd_ F.port
          clear HT F
          go_wp2_with fail
          go_quiet ((go_at_call 82; exact Calls.quiet_of_same (psI _ HS.out)))
          go_wp2_with fail
          go_ret2
          rw [HR.out]
          exact ⟨some ⟨b, 0, none⟩, c, rfl, HP.out, HO.out, hogb, bdN hb2 _⟩
        · have d4 : decide (sn + ob <= p.now) = false := by simpa using h4
          by_cases h5 : 300 < sn + ob
          · have d5 : decide (300 < sn + ob) = true := by simpa using h5
            have HR := hd_ (show tell1 p ⟨5, oa, ob, oc⟩ = (p, 0, 2) by rw [HT.out, if_pos rfl, if_pos (by rw [HST.out, HSN.out]; omega)])
            have HO := hd_ F.own
            have HP := hd_ F.port
            clear HT F
            go_wp2_with fail
            go_quiet ((go_at_call 82; exact Calls.quiet_of_same (psI _ HS.out)))
            go_wp2_with fail
            go_ret2
            rw [HR.out]
            exact ⟨some ⟨b, 0, none⟩, c, rfl, HP.out, HO.out, hogb, bdN hb2 _⟩
          · have d5 : decide (300 < sn + ob) = false := by simpa using h5
            have HR := hd_ (show tell1 p ⟨5, oa, ob, oc⟩ = (p.setShip k { p.ship k with long := ob }, 0, 0) by rw [HT.out, if_pos rfl, if_neg (by rw [HST.out, HSN.out]; omega)])
            have HFF := hd_ F
            clear HT F
            go_wp2_with fail
            go_quiet ((go_at_call 82; exact Calls.quiet_of_same (psI _ HS.out)))
            have HO := hd_ (own_long (w := wr.drewN nq) (x := ob) HFF.out.own HFF.out.lt)
            have HP := hd_ ((HFF.out.port.drewN nq).beside ⟨b, k * 6 + 2, none⟩ (.int .i64 ob) (by simpa using hnbg))
            have HB := hd_ ((bdN hb2 nq).setCell (p := ⟨b, k * 6 + 2, none⟩) hFb (.int .i64 ob))
            go_wp2_with fail
            go_ret2
            rw [HR.out]
            refine ⟨some ⟨b, 0, none⟩, c, rfl, ?_, HO.out, by simpa [Port.setShip] using hogb, HB.out⟩
            have := HP.out
            unfold PortAt at this ⊢
            simpa [portA, Port.setShip, Port.keep] using this
      · have d3 : (st == 3) = false := by simpa using h3
        have HR := hd_ (show tell1 p ⟨5, oa, ob, oc⟩ = (p.setShip k { p.ship k with long := ob }, 0, 0) by rw [HT.out, if_pos rfl, if_neg (by rw [HST.out, HSN.out]; omega)])
        have HFF := hd_ F
        clear HT F
        go_wp2_with fail
        go_quiet ((go_at_call 82; exact Calls.quiet_of_same (psI _ HS.out)))
        have HO := hd_ (own_long (w := wr.drewN nq) (x := ob) HFF.out.own HFF.out.lt)
        have HP := hd_ ((HFF.out.port.drewN nq).beside ⟨b, k * 6 + 2, none⟩ (.int .i64 ob) (by simpa using hnbg))
        have HB := hd_ ((bdN hb2 nq).setCell (p := ⟨b, k * 6 + 2, none⟩) hFb (.int .i64 ob))
        go_wp2_with fail
        go_ret2
        rw [HR.out]
        refine ⟨some ⟨b, 0, none⟩, c, rfl, ?_, HO.out, by simpa [Port.setShip] using hogb, HB.out⟩
        have := HP.out
        unfold PortAt at this ⊢
        simpa [portA, Port.setShip, Port.keep] using this
    · have hob : inB ob 1 300 = false := by simpa using hob
      have HS := hd_ hob
      have hob2 : ¬ (1 <= ob /\ ob <= 300) := by rw [<- inB_iff, hob]; simp
      clear hob
      have HR := hd_ (show tell1 p ⟨5, oa, ob, oc⟩ = (p, 0, 2) by rw [HT.out, if_pos rfl, if_pos (by rw [HST.out, HSN.out]; omega)])
      have HO := hd_ F.own
      have HP := hd_ F.port
      clear HT F
      go_wp2_with fail
      go_quiet ((go_at_call 82; exact Calls.quiet_of_same (psI _ HS.out)))
      go_wp2_with fail
      go_ret2
      rw [HR.out]
      exact ⟨some ⟨b, 0, none⟩, c, rfl, HP.out, HO.out, hogb, bdN hb2 _⟩
  · have hse' : (se == 0) = false := by simpa using he
    have HR := hd_ (show tell1 p ⟨5, oa, ob, oc⟩ = (p, 0, se) by rw [HT.out, if_neg he])
    clear HT hv
    go_wp2_with fail
    go_ret2
    rw [HR.out]
    exact ⟨A, c, rfl, hP2, ho2, hog, hb2⟩
end Go.Proofs.YtifmdkcpbajdcabGreatDoor

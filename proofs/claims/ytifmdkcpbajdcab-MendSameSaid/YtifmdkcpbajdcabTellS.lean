/- Walks: orders that mean a ship: it leaves, is held, is freed, is to lie for another time. -/
import Derived.Test.YtifmdkcpbajdcabShipW
namespace Go.Proofs.Ytifmdkcpbajdcab
open Go.RowKit Go.Proofs Plain

theorem own_state {w : World} {base b c k : Nat} {x : Int} {l : List Ship} (h : OwnK w base (.slice (some ⟨b, 0, none⟩) l.length c) l) (hk : k < l.length) :
    OwnK (w.setCell ⟨b, k * 6, none⟩ (.int .i64 x)) base (.slice (some ⟨b, 0, none⟩) (l.set k { l.getD k Ship.zero with state := x }).length c) (l.set k { l.getD k Ship.zero with state := x }) := by
  have := ownK_set (j := 0) (v := .int .i64 x) (s := { l.getD k Ship.zero with state := x }) h hk (by omega) (by simp [shipV])
  simpa using this

theorem own_long {w : World} {base b c k : Nat} {x : Int} {l : List Ship} (h : OwnK w base (.slice (some ⟨b, 0, none⟩) l.length c) l) (hk : k < l.length) :
    OwnK (w.setCell ⟨b, k * 6 + 2, none⟩ (.int .i64 x)) base (.slice (some ⟨b, 0, none⟩) (l.set k { l.getD k Ship.zero with long := x }).length c) (l.set k { l.getD k Ship.zero with long := x }) :=
  ownK_set (j := 2) (v := .int .i64 x) (s := { l.getD k Ship.zero with long := x }) h hk (by omega) (by simp [shipV])

theorem getD_setK (l : List Ship) (k : Nat) (s : Ship) (hk : k < l.length) : (l.set k s).getD k Ship.zero = s := by
  rw [List.getD_eq_getElem?_getD, List.getElem?_set_self hk]; rfl

theorem own_gone {w : World} {base b c k : Nat} {x y : Int} {l : List Ship} (h : OwnK w base (.slice (some ⟨b, 0, none⟩) l.length c) l) (hk : k < l.length) :
    OwnK ((w.setCell ⟨b, k * 6, none⟩ (.int .i64 x)).setCell ⟨b, k * 6 + 4, none⟩ (.int .i64 y)) base (.slice (some ⟨b, 0, none⟩) (l.set k { l.getD k Ship.zero with state := x, since := y }).length c) (l.set k { l.getD k Ship.zero with state := x, since := y }) := by
  have h1 := own_state (x := x) h hk
  have h2 := ownK_set (k := k) (j := 4) (v := .int .i64 y) (s := { l.getD k Ship.zero with state := x, since := y }) h1 (by rw [List.length_set]; exact hk) (by omega) (by rw [getD_setK _ _ _ hk]; simp [shipV])
  rw [List.set_set] at h2
  exact h2

/-- What stands when a ship has been found. -/
structure Found (p : Port) (g base b c k : Nat) (w : World) : Prop where
  port : PortAt w g p (some ⟨b, 0, none⟩) c
  own : OwnK w base (.slice (some ⟨b, 0, none⟩) p.ships.length c) p.ships
  ne : b ≠ g
  lt : k < p.ships.length
  cells : ∀ j, j < 6 → w.cell? ⟨b, k * 6 + j, none⟩ = (shipV (p.ship k))[j]?
  ice : ∀ j, w.frozen? ⟨b, j, none⟩ = false
  base : base ≤ b
  blk : b < w.heap.size

theorem found {p : Port} {A : Option Addr} {g base b off c k : Nat} {w : World} (hP : PortAt w g p A c) (ho : OwnK w base (.slice A p.ships.length c) p.ships) (hog : (Value.slice A p.ships.length c).ownBlock ≠ some g) (hk : k < p.ships.length) (hA : A = some ⟨b, off, none⟩) :
    off = 0 ∧ Found p g base b c k w := by
  obtain ⟨b', e, h1, h2⟩ := ownK_at ho (by omega)
  rw [hA] at e
  injection e with e
  injection e with e1 e2
  subst e1; subst e2; subst hA
  refine ⟨rfl, hP, ho, fun e => hog (by rw [e]; rfl), hk, fun j hj => ?_, fun j => ho.frozenAt j, h1, h2⟩
  have hs : Sl w 6 (some ⟨b, 0, none⟩) p.ships.length (shipCells p.ships) := Sl.of_own ho
  obtain ⟨b2, off2, e2, hc⟩ := hs.2 (by omega)
  injection e2 with e2
  injection e2 with e3 e4
  subst e3; subst e4
  have := hc (k * 6 + j) (by omega)
  rw [Nat.zero_add, shipCells_get _ k j hk hj] at this
  exact this

set_option maxRecDepth 100000 in
set_option maxHeartbeats 8000000 in
theorem tell_leave (p : Port) (A : Option Addr) (c g base : Nat) (oa ob oc : Int) (w : World) (hP : PortAt w g p A c) (hown : OwnK w base (.slice A p.ships.length c) p.ships) (hog : (Value.slice A p.ships.length c).ownBlock ≠ some g) (hgb : base ≤ g) (hbs : base ≤ w.heap.size) (hl : p.ships.length ≤ 14) :
    Calls Try.prog 47 #[.pointer (some ⟨g, 0, none⟩), .agg (orderA ⟨2, oa, ob, oc⟩)] w (RetTell g base (tell1 p ⟨2, oa, ob, oc⟩) w) := by
  have hP2 := (hP.alloc (.cells (orderA ⟨2, oa, ob, oc⟩) 45)).alloc (.cells #[.int .i64 1, .int .i64 2, .int .i64 3] 3)
  have ho2 : OwnK ((w.alloc (.cells (orderA ⟨2, oa, ob, oc⟩) 45)).alloc (.cells #[.int .i64 1, .int .i64 2, .int .i64 3] 3)) base (.slice A p.ships.length c) p.ships := (World.ownsRow.alloc hown _).alloc _
  have hb2 : Below base w ((w.alloc (.cells (orderA ⟨2, oa, ob, oc⟩) 45)).alloc (.cells #[.int .i64 1, .int .i64 2, .int .i64 3] 3)) := (((Below.refl _ _).alloc (Nat.le_refl _) _).alloc (by simp) _).mono hbs
  have hc2 : ∀ j, j < [1, 2, 3].length → ((w.alloc (.cells (orderA ⟨2, oa, ob, oc⟩) 45)).alloc (.cells #[.int .i64 1, .int .i64 2, .int .i64 3] 3)).cell? ⟨w.heap.size + 1, j, none⟩ = some (.int .i64 (([1, 2, 3] : List Int).getD j 0)) := fun j hj => by
    have hn := heap_alloc_new (w.alloc (.cells (orderA ⟨2, oa, ob, oc⟩) 45)) (.cells #[.int .i64 1, .int .i64 2, .int .i64 3] 3)
    rw [show (w.alloc (.cells (orderA ⟨2, oa, ob, oc⟩) 45)).heap.size = w.heap.size + 1 by simp] at hn
    rw [cell_of_row _ (w.heap.size + 1) j _ _ _ hn]
    simp only [List.length_cons, List.length_nil] at hj
    rcases (by omega : j = 0 ∨ j = 1 ∨ j = 2) with rfl | rfl | rfl <;> rfl
  have hor : ((w.alloc (.cells (orderA ⟨2, oa, ob, oc⟩) 45)).alloc (.cells #[.int .i64 1, .int .i64 2, .int .i64 3] 3)).cell? ⟨w.heap.size, 2, none⟩ = some (.int .i64 ob) :=
    (World.cell?_alloc_lt _ _ ⟨w.heap.size, 2, none⟩ (by simp)).trans (by rw [cell_of_row _ w.heap.size 2 _ _ _ (heap_alloc_new w _)]; rfl)
  have HT := Lib.hid (show tell1 p ⟨2, oa, ob, oc⟩ = if shipE p oa [1, 2, 3] = 0 then (p.setShip oa.toNat { p.ship oa.toNat with state := 4, since := 0 }, 0, 0) else (p, 0, shipE p oa [1, 2, 3]) from rfl)
  have hlt2 := hP2.lt
  have hgs := hP.lt
  simp only [orderA] at hP2 ho2 hb2 hc2 hlt2 hor ⊢
  clear hP hown
  go_enter Try.func47, Try.ntmps47
  go_wp2_with fail
  refine (ship_any p A c g (w.heap.size + 1) 3 oa [1, 2, 3] _ hP2 (Sl.of_own ho2) hl (by decide) hc2).mono ?_
  rintro e w' ⟨v, rfl, rfl, hv⟩
  generalize hse : shipE p oa [1, 2, 3] = se at *
  generalize (w.alloc (.cells #[.int .i64 2, .int .i64 oa, .int .i64 ob, .int .i64 oc] 45)).alloc (.cells #[.int .i64 1, .int .i64 2, .int .i64 3] 3) = wr at *
  clear hc2
  by_cases he : se = 0
  · subst he
    have hok := shipE_ok hse
    obtain ⟨b, off, hA, rfl⟩ := hv rfl
    obtain ⟨rfl, F⟩ := found hP2 ho2 hog hok.2.1 hA
    subst hA
    have HE := Lib.hid hse
    clear hse hv hog
    rw [Nat.zero_add]
    generalize oa.toNat = k at *
    have c0 := F.cells 0 (by omega)
    have c2 := F.cells 2 (by omega)
    have c4 := F.cells 4 (by omega)
    rw [Nat.add_zero] at c0
    simp only [shipV] at c0 c2 c4
    have i0 := F.ice (k * 6)
    have i2 := F.ice (k * 6 + 2)
    have i4 := F.ice (k * 6 + 4)
    have hnbg : b ≠ g := F.ne
    have hogb : (Value.slice (some ⟨b, 0, none⟩) p.ships.length c).ownBlock ≠ some g := fun e => hnbg (by simpa [Value.ownBlock] using e)
    have hFb := F.base
    have HR := Lib.hid (show tell1 p ⟨2, oa, ob, oc⟩ = (p.setShip k { p.ship k with state := 4, since := 0 }, 0, 0) by rw [HT.out, if_pos rfl])
    have HO := Lib.hid (own_gone (x := 4) (y := 0) F.own F.lt)
    have HP := Lib.hid ((F.port.beside ⟨b, k * 6, none⟩ (.int .i64 4) (by simpa using hnbg)).beside ⟨b, k * 6 + 4, none⟩ (.int .i64 0) (by simpa using hnbg))
    have HB := Lib.hid ((hb2.setCell (p := ⟨b, k * 6, none⟩) hFb (.int .i64 4)).setCell (p := ⟨b, k * 6 + 4, none⟩) hFb (.int .i64 0))
    clear HT F
    go_wp2_with fail
    go_ret2
    rw [HR.out]
    refine ⟨some ⟨b, 0, none⟩, c, rfl, ?_, HO.out, by simpa [Port.setShip] using hogb, HB.out⟩
    have := HP.out
    unfold PortAt at this ⊢
    simpa [portA, Port.setShip, Port.keep] using this
  · have hse' : (se == 0) = false := by simpa using he
    have HR := Lib.hid (show tell1 p ⟨2, oa, ob, oc⟩ = (p, 0, se) by rw [HT.out, if_neg he])
    clear HT hv
    go_wp2_with fail
    go_ret2
    rw [HR.out]
    exact ⟨A, c, rfl, hP2, ho2, hog, hb2⟩

set_option maxRecDepth 100000 in
set_option maxHeartbeats 8000000 in
theorem tell_hold (p : Port) (A : Option Addr) (c g base : Nat) (oa ob oc : Int) (w : World) (hP : PortAt w g p A c) (hown : OwnK w base (.slice A p.ships.length c) p.ships) (hog : (Value.slice A p.ships.length c).ownBlock ≠ some g) (hgb : base ≤ g) (hbs : base ≤ w.heap.size) (hl : p.ships.length ≤ 14) :
    Calls Try.prog 47 #[.pointer (some ⟨g, 0, none⟩), .agg (orderA ⟨3, oa, ob, oc⟩)] w (RetTell g base (tell1 p ⟨3, oa, ob, oc⟩) w) := by
  have hP2 := (hP.alloc (.cells (orderA ⟨3, oa, ob, oc⟩) 45)).alloc (.cells #[.int .i64 1] 3)
  have ho2 : OwnK ((w.alloc (.cells (orderA ⟨3, oa, ob, oc⟩) 45)).alloc (.cells #[.int .i64 1] 3)) base (.slice A p.ships.length c) p.ships := (World.ownsRow.alloc hown _).alloc _
  have hb2 : Below base w ((w.alloc (.cells (orderA ⟨3, oa, ob, oc⟩) 45)).alloc (.cells #[.int .i64 1] 3)) := (((Below.refl _ _).alloc (Nat.le_refl _) _).alloc (by simp) _).mono hbs
  have hc2 : ∀ j, j < [1].length → ((w.alloc (.cells (orderA ⟨3, oa, ob, oc⟩) 45)).alloc (.cells #[.int .i64 1] 3)).cell? ⟨w.heap.size + 1, j, none⟩ = some (.int .i64 (([1] : List Int).getD j 0)) := fun j hj => by
    have hn := heap_alloc_new (w.alloc (.cells (orderA ⟨3, oa, ob, oc⟩) 45)) (.cells #[.int .i64 1] 3)
    rw [show (w.alloc (.cells (orderA ⟨3, oa, ob, oc⟩) 45)).heap.size = w.heap.size + 1 by simp] at hn
    rw [cell_of_row _ (w.heap.size + 1) j _ _ _ hn]
    simp only [List.length_cons, List.length_nil] at hj
    obtain rfl : j = 0 := by omega
    rfl
  have hor : ((w.alloc (.cells (orderA ⟨3, oa, ob, oc⟩) 45)).alloc (.cells #[.int .i64 1] 3)).cell? ⟨w.heap.size, 2, none⟩ = some (.int .i64 ob) :=
    (World.cell?_alloc_lt _ _ ⟨w.heap.size, 2, none⟩ (by simp)).trans (by rw [cell_of_row _ w.heap.size 2 _ _ _ (heap_alloc_new w _)]; rfl)
  have HT := Lib.hid (show tell1 p ⟨3, oa, ob, oc⟩ = if shipE p oa [1] = 0 then (p.setShip oa.toNat { p.ship oa.toNat with state := 2 }, 0, 0) else (p, 0, shipE p oa [1]) from rfl)
  have hlt2 := hP2.lt
  have hgs := hP.lt
  simp only [orderA] at hP2 ho2 hb2 hc2 hlt2 hor ⊢
  clear hP hown
  go_enter Try.func47, Try.ntmps47
  go_wp2_with fail
  refine (ship_any p A c g (w.heap.size + 1) 1 oa [1] _ hP2 (Sl.of_own ho2) hl (by decide) hc2).mono ?_
  rintro e w' ⟨v, rfl, rfl, hv⟩
  generalize hse : shipE p oa [1] = se at *
  generalize (w.alloc (.cells #[.int .i64 3, .int .i64 oa, .int .i64 ob, .int .i64 oc] 45)).alloc (.cells #[.int .i64 1] 3) = wr at *
  clear hc2
  by_cases he : se = 0
  · subst he
    have hok := shipE_ok hse
    obtain ⟨b, off, hA, rfl⟩ := hv rfl
    obtain ⟨rfl, F⟩ := found hP2 ho2 hog hok.2.1 hA
    subst hA
    have HE := Lib.hid hse
    clear hse hv hog
    rw [Nat.zero_add]
    generalize oa.toNat = k at *
    have c0 := F.cells 0 (by omega)
    have c2 := F.cells 2 (by omega)
    have c4 := F.cells 4 (by omega)
    rw [Nat.add_zero] at c0
    simp only [shipV] at c0 c2 c4
    have i0 := F.ice (k * 6)
    have i2 := F.ice (k * 6 + 2)
    have i4 := F.ice (k * 6 + 4)
    have hnbg : b ≠ g := F.ne
    have hogb : (Value.slice (some ⟨b, 0, none⟩) p.ships.length c).ownBlock ≠ some g := fun e => hnbg (by simpa [Value.ownBlock] using e)
    have hFb := F.base
    have HR := Lib.hid (show tell1 p ⟨3, oa, ob, oc⟩ = (p.setShip k { p.ship k with state := 2 }, 0, 0) by rw [HT.out, if_pos rfl])
    have HO := Lib.hid (own_state (x := 2) F.own F.lt)
    have HP := Lib.hid (F.port.beside ⟨b, k * 6, none⟩ (.int .i64 2) (by simpa using hnbg))
    have HB := Lib.hid (hb2.setCell (p := ⟨b, k * 6, none⟩) hFb (.int .i64 2))
    clear HT F
    go_wp2_with fail
    go_ret2
    rw [HR.out]
    refine ⟨some ⟨b, 0, none⟩, c, rfl, ?_, HO.out, by simpa [Port.setShip] using hogb, HB.out⟩
    have := HP.out
    unfold PortAt at this ⊢
    simpa [portA, Port.setShip, Port.keep] using this
  · have hse' : (se == 0) = false := by simpa using he
    have HR := Lib.hid (show tell1 p ⟨3, oa, ob, oc⟩ = (p, 0, se) by rw [HT.out, if_neg he])
    clear HT hv
    go_wp2_with fail
    go_ret2
    rw [HR.out]
    exact ⟨A, c, rfl, hP2, ho2, hog, hb2⟩

set_option maxRecDepth 100000 in
set_option maxHeartbeats 8000000 in
theorem tell_free (p : Port) (A : Option Addr) (c g base : Nat) (oa ob oc : Int) (w : World) (hP : PortAt w g p A c) (hown : OwnK w base (.slice A p.ships.length c) p.ships) (hog : (Value.slice A p.ships.length c).ownBlock ≠ some g) (hgb : base ≤ g) (hbs : base ≤ w.heap.size) (hl : p.ships.length ≤ 14) :
    Calls Try.prog 47 #[.pointer (some ⟨g, 0, none⟩), .agg (orderA ⟨4, oa, ob, oc⟩)] w (RetTell g base (tell1 p ⟨4, oa, ob, oc⟩) w) := by
  have hP2 := (hP.alloc (.cells (orderA ⟨4, oa, ob, oc⟩) 45)).alloc (.cells #[.int .i64 2] 3)
  have ho2 : OwnK ((w.alloc (.cells (orderA ⟨4, oa, ob, oc⟩) 45)).alloc (.cells #[.int .i64 2] 3)) base (.slice A p.ships.length c) p.ships := (World.ownsRow.alloc hown _).alloc _
  have hb2 : Below base w ((w.alloc (.cells (orderA ⟨4, oa, ob, oc⟩) 45)).alloc (.cells #[.int .i64 2] 3)) := (((Below.refl _ _).alloc (Nat.le_refl _) _).alloc (by simp) _).mono hbs
  have hc2 : ∀ j, j < [2].length → ((w.alloc (.cells (orderA ⟨4, oa, ob, oc⟩) 45)).alloc (.cells #[.int .i64 2] 3)).cell? ⟨w.heap.size + 1, j, none⟩ = some (.int .i64 (([2] : List Int).getD j 0)) := fun j hj => by
    have hn := heap_alloc_new (w.alloc (.cells (orderA ⟨4, oa, ob, oc⟩) 45)) (.cells #[.int .i64 2] 3)
    rw [show (w.alloc (.cells (orderA ⟨4, oa, ob, oc⟩) 45)).heap.size = w.heap.size + 1 by simp] at hn
    rw [cell_of_row _ (w.heap.size + 1) j _ _ _ hn]
    simp only [List.length_cons, List.length_nil] at hj
    obtain rfl : j = 0 := by omega
    rfl
  have hor : ((w.alloc (.cells (orderA ⟨4, oa, ob, oc⟩) 45)).alloc (.cells #[.int .i64 2] 3)).cell? ⟨w.heap.size, 2, none⟩ = some (.int .i64 ob) :=
    (World.cell?_alloc_lt _ _ ⟨w.heap.size, 2, none⟩ (by simp)).trans (by rw [cell_of_row _ w.heap.size 2 _ _ _ (heap_alloc_new w _)]; rfl)
  have HT := Lib.hid (show tell1 p ⟨4, oa, ob, oc⟩ = if shipE p oa [2] = 0 then (p.setShip oa.toNat { p.ship oa.toNat with state := 1 }, 0, 0) else (p, 0, shipE p oa [2]) from rfl)
  have hlt2 := hP2.lt
  have hgs := hP.lt
  simp only [orderA] at hP2 ho2 hb2 hc2 hlt2 hor ⊢
  clear hP hown
  go_enter Try.func47, Try.ntmps47
  go_wp2_with fail
  refine (ship_any p A c g (w.heap.size + 1) 1 oa [2] _ hP2 (Sl.of_own ho2) hl (by decide) hc2).mono ?_
  rintro e w' ⟨v, rfl, rfl, hv⟩
  generalize hse : shipE p oa [2] = se at *
  generalize (w.alloc (.cells #[.int .i64 4, .int .i64 oa, .int .i64 ob, .int .i64 oc] 45)).alloc (.cells #[.int .i64 2] 3) = wr at *
  clear hc2
  by_cases he : se = 0
  · subst he
    have hok := shipE_ok hse
    obtain ⟨b, off, hA, rfl⟩ := hv rfl
    obtain ⟨rfl, F⟩ := found hP2 ho2 hog hok.2.1 hA
    subst hA
    have HE := Lib.hid hse
    clear hse hv hog
    rw [Nat.zero_add]
    generalize oa.toNat = k at *
    have c0 := F.cells 0 (by omega)
    have c2 := F.cells 2 (by omega)
    have c4 := F.cells 4 (by omega)
    rw [Nat.add_zero] at c0
    simp only [shipV] at c0 c2 c4
    have i0 := F.ice (k * 6)
    have i2 := F.ice (k * 6 + 2)
    have i4 := F.ice (k * 6 + 4)
    have hnbg : b ≠ g := F.ne
    have hogb : (Value.slice (some ⟨b, 0, none⟩) p.ships.length c).ownBlock ≠ some g := fun e => hnbg (by simpa [Value.ownBlock] using e)
    have hFb := F.base
    have HR := Lib.hid (show tell1 p ⟨4, oa, ob, oc⟩ = (p.setShip k { p.ship k with state := 1 }, 0, 0) by rw [HT.out, if_pos rfl])
    have HO := Lib.hid (own_state (x := 1) F.own F.lt)
    have HP := Lib.hid (F.port.beside ⟨b, k * 6, none⟩ (.int .i64 1) (by simpa using hnbg))
    have HB := Lib.hid (hb2.setCell (p := ⟨b, k * 6, none⟩) hFb (.int .i64 1))
    clear HT F
    go_wp2_with fail
    go_ret2
    rw [HR.out]
    refine ⟨some ⟨b, 0, none⟩, c, rfl, ?_, HO.out, by simpa [Port.setShip] using hogb, HB.out⟩
    have := HP.out
    unfold PortAt at this ⊢
    simpa [portA, Port.setShip, Port.keep] using this
  · have hse' : (se == 0) = false := by simpa using he
    have HR := Lib.hid (show tell1 p ⟨4, oa, ob, oc⟩ = (p, 0, se) by rw [HT.out, if_neg he])
    clear HT hv
    go_wp2_with fail
    go_ret2
    rw [HR.out]
    exact ⟨A, c, rfl, hP2, ho2, hog, hb2⟩

set_option maxRecDepth 100000 in
set_option maxHeartbeats 8000000 in
theorem tell_change (p : Port) (A : Option Addr) (c g base : Nat) (oa ob oc : Int) (w : World) (hP : PortAt w g p A c) (hown : OwnK w base (.slice A p.ships.length c) p.ships) (hog : (Value.slice A p.ships.length c).ownBlock ≠ some g) (hgb : base ≤ g) (hbs : base ≤ w.heap.size) (hl : p.ships.length ≤ 14) (hfair : Plain.Fair p) :
    Calls Try.prog 47 #[.pointer (some ⟨g, 0, none⟩), .agg (orderA ⟨5, oa, ob, oc⟩)] w (RetTell g base (tell1 p ⟨5, oa, ob, oc⟩) w) := by
  have hP2 := (hP.alloc (.cells (orderA ⟨5, oa, ob, oc⟩) 45)).alloc (.cells #[.int .i64 1, .int .i64 2, .int .i64 3] 3)
  have ho2 : OwnK ((w.alloc (.cells (orderA ⟨5, oa, ob, oc⟩) 45)).alloc (.cells #[.int .i64 1, .int .i64 2, .int .i64 3] 3)) base (.slice A p.ships.length c) p.ships := (World.ownsRow.alloc hown _).alloc _
  have hb2 : Below base w ((w.alloc (.cells (orderA ⟨5, oa, ob, oc⟩) 45)).alloc (.cells #[.int .i64 1, .int .i64 2, .int .i64 3] 3)) := (((Below.refl _ _).alloc (Nat.le_refl _) _).alloc (by simp) _).mono hbs
  have hc2 : ∀ j, j < [1, 2, 3].length → ((w.alloc (.cells (orderA ⟨5, oa, ob, oc⟩) 45)).alloc (.cells #[.int .i64 1, .int .i64 2, .int .i64 3] 3)).cell? ⟨w.heap.size + 1, j, none⟩ = some (.int .i64 (([1, 2, 3] : List Int).getD j 0)) := fun j hj => by
    have hn := heap_alloc_new (w.alloc (.cells (orderA ⟨5, oa, ob, oc⟩) 45)) (.cells #[.int .i64 1, .int .i64 2, .int .i64 3] 3)
    rw [show (w.alloc (.cells (orderA ⟨5, oa, ob, oc⟩) 45)).heap.size = w.heap.size + 1 by simp] at hn
    rw [cell_of_row _ (w.heap.size + 1) j _ _ _ hn]
    simp only [List.length_cons, List.length_nil] at hj
    rcases (by omega : j = 0 ∨ j = 1 ∨ j = 2) with rfl | rfl | rfl <;> rfl
  have hor : ((w.alloc (.cells (orderA ⟨5, oa, ob, oc⟩) 45)).alloc (.cells #[.int .i64 1, .int .i64 2, .int .i64 3] 3)).cell? ⟨w.heap.size, 2, none⟩ = some (.int .i64 ob) :=
    (World.cell?_alloc_lt _ _ ⟨w.heap.size, 2, none⟩ (by simp)).trans (by rw [cell_of_row _ w.heap.size 2 _ _ _ (heap_alloc_new w _)]; rfl)
  have HT := Lib.hid (show tell1 p ⟨5, oa, ob, oc⟩ = if shipE p oa [1, 2, 3] = 0 then (if ¬ (1 ≤ ob ∧ ob ≤ 300) ∨ ((p.ship oa.toNat).state = 3 ∧ ((p.ship oa.toNat).since + ob ≤ p.now ∨ 300 < (p.ship oa.toNat).since + ob)) then (p, 0, 2) else (p.setShip oa.toNat { p.ship oa.toNat with long := ob }, 0, 0)) else (p, 0, shipE p oa [1, 2, 3]) from rfl)
  have hlt2 := hP2.lt
  have hgs := hP.lt
  simp only [orderA] at hP2 ho2 hb2 hc2 hlt2 hor ⊢
  clear hP hown
  go_enter Try.func47, Try.ntmps47
  go_wp2_with fail
  refine (ship_any p A c g (w.heap.size + 1) 3 oa [1, 2, 3] _ hP2 (Sl.of_own ho2) hl (by decide) hc2).mono ?_
  rintro e w' ⟨v, rfl, rfl, hv⟩
  generalize hse : shipE p oa [1, 2, 3] = se at *
  generalize (w.alloc (.cells #[.int .i64 5, .int .i64 oa, .int .i64 ob, .int .i64 oc] 45)).alloc (.cells #[.int .i64 1, .int .i64 2, .int .i64 3] 3) = wr at *
  clear hc2
  by_cases he : se = 0
  · subst he
    have hok := shipE_ok hse
    obtain ⟨b, off, hA, rfl⟩ := hv rfl
    obtain ⟨rfl, F⟩ := found hP2 ho2 hog hok.2.1 hA
    subst hA
    have HE := Lib.hid hse
    clear hse hv hog
    rw [Nat.zero_add]
    generalize oa.toNat = k at *
    have c0 := F.cells 0 (by omega)
    have c2 := F.cells 2 (by omega)
    have c4 := F.cells 4 (by omega)
    rw [Nat.add_zero] at c0
    simp only [shipV] at c0 c2 c4
    have i0 := F.ice (k * 6)
    have i2 := F.ice (k * 6 + 2)
    have i4 := F.ice (k * 6 + 4)
    have hnbg : b ≠ g := F.ne
    have hogb : (Value.slice (some ⟨b, 0, none⟩) p.ships.length c).ownBlock ≠ some g := fun e => hnbg (by simpa [Value.ownBlock] using e)
    have hFb := F.base
    have hsi : (p.ship k).state = 3 → 0 ≤ (p.ship k).since ∧ (p.ship k).since ≤ 300 := fun h => by have h1 := (hfair.ship k F.lt).1.lies h; have h2 := (hfair.ship k F.lt).1.long; omega
    have hnow := F.port.now
    have hn := hfair.now
    have hw4 := hfair.ship k F.lt
    generalize hst : (p.ship k).state = st at c0 hsi
    generalize hsn : (p.ship k).since = sn at c4 hsi
    have HST := Lib.hid hst
    have HSN := Lib.hid hsn
    clear hst hsn
    by_cases hob : inB ob 1 300 = true
    · have HS := Lib.hid hob
      obtain ⟨b1, b2⟩ := (inB_iff _ _ _).1 hob
      clear hob
      by_cases h3 : st = 3
      · obtain ⟨s1, s2⟩ := hsi h3
        have d3 : (st == 3) = true := by simpa using h3
        by_cases h4 : sn + ob ≤ p.now
        · have d4 : decide (sn + ob ≤ p.now) = true := by simpa using h4
          have HR := Lib.hid (show tell1 p ⟨5, oa, ob, oc⟩ = (p, 0, 2) by rw [HT.out, if_pos rfl, if_pos (by rw [HST.out, HSN.out]; omega)])
          have HO := Lib.hid F.own
          have HP := Lib.hid F.port
          clear HT F
          go_wp2_with fail
          go_quiet ((go_at_call 27; exact Calls.quiet_of_same (psmall_is _ HS.out)))
          go_wp2_with fail
          go_ret2
          rw [HR.out]
          exact ⟨some ⟨b, 0, none⟩, c, rfl, HP.out, HO.out, hogb, below_drewN hb2 _⟩
        · have d4 : decide (sn + ob ≤ p.now) = false := by simpa using h4
          by_cases h5 : 300 < sn + ob
          · have d5 : decide (300 < sn + ob) = true := by simpa using h5
            have HR := Lib.hid (show tell1 p ⟨5, oa, ob, oc⟩ = (p, 0, 2) by rw [HT.out, if_pos rfl, if_pos (by rw [HST.out, HSN.out]; omega)])
            have HO := Lib.hid F.own
            have HP := Lib.hid F.port
            clear HT F
            go_wp2_with fail
            go_quiet ((go_at_call 27; exact Calls.quiet_of_same (psmall_is _ HS.out)))
            go_wp2_with fail
            go_ret2
            rw [HR.out]
            exact ⟨some ⟨b, 0, none⟩, c, rfl, HP.out, HO.out, hogb, below_drewN hb2 _⟩
          · have d5 : decide (300 < sn + ob) = false := by simpa using h5
            have HR := Lib.hid (show tell1 p ⟨5, oa, ob, oc⟩ = (p.setShip k { p.ship k with long := ob }, 0, 0) by rw [HT.out, if_pos rfl, if_neg (by rw [HST.out, HSN.out]; omega)])
            have HFF := Lib.hid F
            clear HT F
            go_wp2_with fail
            go_quiet ((go_at_call 27; exact Calls.quiet_of_same (psmall_is _ HS.out)))
            have HO := Lib.hid (own_long (w := wr.drewN nq) (x := ob) HFF.out.own HFF.out.lt)
            have HP := Lib.hid ((HFF.out.port.drewN nq).beside ⟨b, k * 6 + 2, none⟩ (.int .i64 ob) (by simpa using hnbg))
            have HB := Lib.hid ((below_drewN hb2 nq).setCell (p := ⟨b, k * 6 + 2, none⟩) hFb (.int .i64 ob))
            go_wp2_with fail
            go_ret2
            rw [HR.out]
            refine ⟨some ⟨b, 0, none⟩, c, rfl, ?_, HO.out, by simpa [Port.setShip] using hogb, HB.out⟩
            have := HP.out
            unfold PortAt at this ⊢
            simpa [portA, Port.setShip, Port.keep] using this
      · have d3 : (st == 3) = false := by simpa using h3
        have HR := Lib.hid (show tell1 p ⟨5, oa, ob, oc⟩ = (p.setShip k { p.ship k with long := ob }, 0, 0) by rw [HT.out, if_pos rfl, if_neg (by rw [HST.out, HSN.out]; omega)])
        have HFF := Lib.hid F
        clear HT F
        go_wp2_with fail
        go_quiet ((go_at_call 27; exact Calls.quiet_of_same (psmall_is _ HS.out)))
        have HO := Lib.hid (own_long (w := wr.drewN nq) (x := ob) HFF.out.own HFF.out.lt)
        have HP := Lib.hid ((HFF.out.port.drewN nq).beside ⟨b, k * 6 + 2, none⟩ (.int .i64 ob) (by simpa using hnbg))
        have HB := Lib.hid ((below_drewN hb2 nq).setCell (p := ⟨b, k * 6 + 2, none⟩) hFb (.int .i64 ob))
        go_wp2_with fail
        go_ret2
        rw [HR.out]
        refine ⟨some ⟨b, 0, none⟩, c, rfl, ?_, HO.out, by simpa [Port.setShip] using hogb, HB.out⟩
        have := HP.out
        unfold PortAt at this ⊢
        simpa [portA, Port.setShip, Port.keep] using this
    · have hob : inB ob 1 300 = false := by simpa using hob
      have HS := Lib.hid hob
      have hob2 : ¬ (1 ≤ ob ∧ ob ≤ 300) := by rw [← inB_iff, hob]; simp
      clear hob
      have HR := Lib.hid (show tell1 p ⟨5, oa, ob, oc⟩ = (p, 0, 2) by rw [HT.out, if_pos rfl, if_pos (by rw [HST.out, HSN.out]; omega)])
      have HO := Lib.hid F.own
      have HP := Lib.hid F.port
      clear HT F
      go_wp2_with fail
      go_quiet ((go_at_call 27; exact Calls.quiet_of_same (psmall_is _ HS.out)))
      go_wp2_with fail
      go_ret2
      rw [HR.out]
      exact ⟨some ⟨b, 0, none⟩, c, rfl, HP.out, HO.out, hogb, below_drewN hb2 _⟩
  · have hse' : (se == 0) = false := by simpa using he
    have HR := Lib.hid (show tell1 p ⟨5, oa, ob, oc⟩ = (p, 0, se) by rw [HT.out, if_neg he])
    clear HT hv
    go_wp2_with fail
    go_ret2
    rw [HR.out]
    exact ⟨A, c, rfl, hP2, ho2, hog, hb2⟩

end Go.Proofs.Ytifmdkcpbajdcab

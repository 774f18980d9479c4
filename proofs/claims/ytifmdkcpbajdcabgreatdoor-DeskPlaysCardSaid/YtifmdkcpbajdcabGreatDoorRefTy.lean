/- Walks: the document's answer to orders that mean a ship. -/
import Derived.Test.YtifmdkcpbajdcabGreatDoorTurnQ
set_option linter.unusedVariables false
set_option linter.unusedSimpArgs false
set_option maxHeartbeats 16000000
namespace Go.Proofs.YtifmdkcpbajdcabGreatDoor
open Go.RowKit Go.Proofs Plain
open Go.Act renaming put -> aP, eval -> aE
open Go.Lib renaming hid -> hd_
set_option maxRecDepth 100000 in
theorem refTell_leave (p : Port) (A : Option Addr) (c : Nat) (oa ob oc : Int) (w : World) (hg : PGood p) (hcap : p.ships.length <= c) (hin : InP w p A) :
    Calls Tryz.prog 45 #[.agg (portA p A c), .agg (orA ⟨2, oa, ob, oc⟩)] w (RetTellC (tellL p ⟨2, oa, ob, oc⟩) w) := by
  have HT := hd_ (show tell1 p ⟨2, oa, ob, oc⟩ = if shipE p oa [1, 2, 3] = 0 then (p.setShip oa.toNat { p.ship oa.toNat with state := 4, since := 0 }, 0, 0) else (p, 0, shipE p oa [1, 2, 3]) from rfl)
  have hlen := hg.len
  have H4 := hd_ hg.four
  have HFR := hd_ hg.toFair
  have HP := hd_ (fair_wf hg.toFair)
  have HG := hd_ ((goodP_iff hg.four).2 hg)
  have HIN := hd_ hin
  have HCAP := hd_ hcap
  clear hg hcap
  simp only [portA, orA]
  go_enter Tryz.func45, Tryz.ntmps45
  have hP0 : PortAt (((w.alloc (.cells (portA p A c) 36)).alloc (.cells (orA ⟨2, oa, ob, oc⟩) 41)).alloc (.cells (portA Port.zero none 0) 36)) w.heap.size p A c := ((PortAt.new w p A c).alloc _).alloc _
  have hO0 : (((w.alloc (.cells (portA p A c) 36)).alloc (.cells (orA ⟨2, oa, ob, oc⟩) 41)).alloc (.cells (portA Port.zero none 0) 36)).heap[w.heap.size + 1]? = some (.cells (orA ⟨2, oa, ob, oc⟩) 41 (0, 0)) := by
    have h1 := heap_alloc_new (w.alloc (.cells (portA p A c) 36)) (.cells (orA ⟨2, oa, ob, oc⟩) 41)
    have h2 := Below.heap_alloc ((w.alloc (.cells (portA p A c) 36)).alloc (.cells (orA ⟨2, oa, ob, oc⟩) 41)) (.cells (portA Port.zero none 0) 36) (w.heap.size + 1) (by simp)
    rw [h2]; simpa using h1
  have hZ0 : PortAt (((w.alloc (.cells (portA p A c) 36)).alloc (.cells (orA ⟨2, oa, ob, oc⟩) 41)).alloc (.cells (portA Port.zero none 0) 36)) (w.heap.size + 2) Port.zero none 0 := by
    have := PortAt.new ((w.alloc (.cells (portA p A c) 36)).alloc (.cells (orA ⟨2, oa, ob, oc⟩) 41)) Port.zero none 0
    simpa using this
  have hB0 : Below w.heap.size w (((w.alloc (.cells (portA p A c) 36)).alloc (.cells (orA ⟨2, oa, ob, oc⟩) 41)).alloc (.cells (portA Port.zero none 0) 36)) := (((Below.refl _ _).alloc (Nat.le_refl _) _).alloc (by simp) _).alloc (by simp; omega) _
  have hs0 : (((w.alloc (.cells (portA p A c) 36)).alloc (.cells (orA ⟨2, oa, ob, oc⟩) 41)).alloc (.cells (portA Port.zero none 0) 36)).heap.size = w.heap.size + 3 := by simp
  obtain ⟨W0, hW0⟩ : ∃ W0, W0 = (((w.alloc (.cells (portA p A c) 36)).alloc (.cells (orA ⟨2, oa, ob, oc⟩) 41)).alloc (.cells (portA Port.zero none 0) 36)) := ⟨_, rfl⟩
  rw [<- hW0] at hP0 hO0 hZ0 hB0 hs0
  rw [zeroA] at hW0
  simp only [portA, orA] at hW0
  have HW0 := hd_ hW0
  clear hW0
  go_upto_region 2 with (fail)
  rw [<- HW0.out]
  clear HW0
  go_wp2_with (refine wLP rfl rfl (by first | rfl | simp [aE, aP]) hP0 ?_)
  refine (isPort_any p A c _ HP.out HCAP.out (Sl.below hin hB0)).mono ?_
  rintro e w1 ⟨rfl, hb1⟩
  rw [HG.out]
  have hP1 := hP0.below hb1 (by rw [hs0]; omega)
  have hZ1 := hZ0.below hb1 (by rw [hs0]; omega)
  have hO1 := (hb1.block (w.heap.size + 1) (by rw [hs0]; omega)).trans hO0
  have hB1 := bG_ hB0 hb1
  have hs1 := hb1.size
  rw [hs0] at hs1
  clear hP0 hZ0 hB0 hO0 hb1 hs0 HP HG
  go_upto_region 6 with (first
    | (refine wLP rfl rfl (by first | rfl | simp [aE, aP]) hP1 ?_)
    | (go_at_call 44; refine (copyP_any p A c _ (Sl.below hin hB1) (by unfold maxLen; omega) (by omega)).mono ?_; rintro e w2 ⟨A2, c2, rfl, ho2, hb2⟩; have hZ8 := PortAt.new w2 Port.zero none 0)
    | (refine wSP rfl rfl (by first | rfl | simp [aE, aP]) (by first | rfl | simp [aE, aP]) hZ8 ?_; intro W hQ hr8))
  have hb8 : Below w2.heap.size w2 W := ((Below.refl _ _).alloc (Nat.le_refl _) _).trans (hr8.below (Nat.le_refl _))
  have hs2 := hb2.size
  have hb3 := bG_ hb2 hb8
  have hP := hP1.below hb3 (by omega)
  have hZ := hZ1.below hb3 (by omega)
  have hO := (hb3.block (w.heap.size + 1) (by omega)).trans hO1
  have hB := bG_ hB1 hb3
  have hown : OwnK W (w.heap.size + 3) (.slice A2 p.ships.length c2) p.ships := own_weak (oBl ho2 hb8) hs1
  have hog : (Value.slice A2 p.ships.length c2).ownBlock ≠ some w2.heap.size := fun e => by
    rcases ho2.2 with ⟨hv, _⟩ | ⟨gg, cap, cur, hv, _, hh, _⟩
    · rw [hv] at e; cases e
    · rw [hv] at e; simp only [Value.ownBlock, Option.some.injEq] at e
      have := (Array.getElem?_eq_some_iff.1 hh).1
      omega
  have hg8 : w.heap.size + 3 <= w2.heap.size := by omega
  obtain ⟨g8, hg8e⟩ : ∃ g8, w2.heap.size = g8 := ⟨_, rfl⟩
  rw [hg8e] at hQ hog hg8
  rw [hg8e]
  clear hP1 hZ1 hO1 hB1 hb2 hb8 hb3 hr8 hZ8 ho2 hs1 hs2 hg8e hin
  have hoc : ∀ i, i < 4 -> W.cell? ⟨w.heap.size + 1, i, none⟩ = (orA ⟨2, oa, ob, oc⟩)[i]? := fun i hi => cell_of_row _ _ i _ _ _ hO
  have o0 := hoc 0 (by omega)
  have o1 := hoc 1 (by omega)
  have o2 := hoc 2 (by omega)
  have o3 := hoc 3 (by omega)
  simp only [orA] at o0 o1 o2 o3
  clear hoc
  have q1 := hP.ships
  have hwr : IntKind.i64.wrap ((p.ships.length : Int) - 1) = (p.ships.length : Int) - 1 := IntWalk.i64_in _ (by omega)
  by_cases hr : 0 <= oa /\ oa < (p.ships.length : Int)
  · obtain ⟨k, rfl⟩ : ∃ k : Nat, oa = k := ⟨oa.toNat, by omega⟩
    have hk : k < p.ships.length := by omega
    have HA := hd_ (show (decide ((0 : Int) <= (k : Int)) && decide ((k : Int) <= (p.ships.length : Int) - 1)) = true by simp; omega)
    have HSE := hd_ (show shipE p k [1, 2, 3] = if (p.ship k).state ∈ ([1, 2, 3] : List Int) then 0 else 4 by unfold shipE; rw [if_neg (by omega), Int.toNat_natCast])
    clear hr
    obtain ⟨b, hA2, hbl, hbs⟩ := ownK_at hown (by omega)
    obtain ⟨_, F⟩ := found hQ hown hog hk hA2
    subst hA2
    have y1 := hQ.ships
    have hstr := (HFR.out.ship k hk).1.state
    have e0 := F.cells 0 (by omega)
    have e2 := F.cells 2 (by omega)
    have e4 := F.cells 4 (by omega)
    rw [Nat.add_zero] at e0
    simp only [shipV] at e0 e2 e4
    have i0 := F.ice (k * 6)
    have i2 := F.ice (k * 6 + 2)
    have i4 := F.ice (k * 6 + 4)
    have hnbg : b ≠ g8 := F.ne
    clear F
    obtain ⟨by8, hb8, hb8w, hm1, hm2, hm3⟩ := st_byte hstr
    have HMY := hd_ hm1
    clear hm1 hm2 hm3
    obtain ⟨st, hst⟩ : ∃ st, (p.ship k).state = st := ⟨_, rfl⟩
    have e0' : W.cell? ⟨b, k * 6, none⟩ = some (.int .i64 st) := by rw [<- hst]; exact e0
    rw [hst] at HSE hstr hb8 hb8w HMY
    have HST := hd_ hst
    clear e0 hst
    have hm0 : MayAt (W.alloc (.map #[] 0)) W.heap.size 0 (fun _ => []) := MayAt.made W
    have hmm := run_makeMap (P := Tryz.prog) 115
    have hbm0 : Below W.heap.size W (W.alloc (.map #[] 0)) := (Below.refl _ _).alloc (Nat.le_refl _) _
    go_upto_region 23 with (first
      | (go_at_call 41; (with_reducible refine (wI_ _ HA.out).mono ?_); rintro e w' ⟨rfl, hw'⟩; obtain rfl := hw'.symm))
    go_upto_region 24 with (first
      | (refine wPM (q := 2) (s := ⟨#[49, 50, 51]⟩) rfl rfl (by first | rfl | simp [aE, aP]) (by first | rfl | simp [aE, aP]) (by first | rfl | simp [aE, aP]) hm0 (by omega) (by unfold i64; omega) ?_; intro x1 hm1 hg1; have hbm1 := hbm0.grown hg1 (by simp) (fun j hj => by cases hj; exact Nat.le_refl _))
      | (refine wPM (q := 3) (s := ⟨#[49]⟩) rfl rfl (by first | rfl | simp [aE, aP]) (by first | rfl | simp [aE, aP]) (by first | rfl | simp [aE, aP]) hm1 (by omega) (by unfold i64; omega) ?_; intro x2 hm2 hg2; have hbm2 := hbm1.grown hg2 hbm1.size (fun j hj => by cases hj; exact Nat.le_refl _))
      | (refine wPM (q := 4) (s := ⟨#[50]⟩) rfl rfl (by first | rfl | simp [aE, aP]) (by first | rfl | simp [aE, aP]) (by first | rfl | simp [aE, aP]) hm2 (by omega) (by unfold i64; omega) ?_; intro x3 hm3 hg3; have hbm3 := hbm2.grown hg3 hbm2.size (fun j hj => by cases hj; exact Nat.le_refl _))
      | (refine wPM (q := 5) (s := ⟨#[49, 50, 51]⟩) rfl rfl (by first | rfl | simp [aE, aP]) (by first | rfl | simp [aE, aP]) (by first | rfl | simp [aE, aP]) hm3 (by omega) (by unfold i64; omega) ?_; intro x4 hm4 hg4; have hbm4 := hbm3.grown hg4 hbm3.size (fun j hj => by cases hj; exact Nat.le_refl _); have o04 := (hbm4.cell (p := ⟨w.heap.size + 1, 0, none⟩) (Array.getElem?_eq_some_iff.1 hO).1).trans o0)
      | (refine wpList_look_may (q := 2) (l := [49, 50, 51]) rfl rfl (by first | rfl | simp [aE, aP]) (by first | rfl | simp [aE, aP]) hm4 (by unfold i64; omega) rfl ?_))
    have hb4 : Below W.heap.size W x4 := hbm4
    clear hm0 hm1 hm2 hm3 hm4 hg1 hg2 hg3 hg4 hbm0 hbm1 hbm2 hbm3 hbm4 hmm o04
    have hP4 := hP.below hb4 hP.lt
    have hZ4 := hZ.below hb4 hZ.lt
    have hQ4 := hQ.below hb4 hQ.lt
    have hB4 := bG_ hB hb4
    have hO4 := (hb4.block (w.heap.size + 1) (Array.getElem?_eq_some_iff.1 hO).1).trans hO
    have hown4 := oBl hown hb4
    have e04 : x4.cell? ⟨b, k * 6, none⟩ = some (.int .i64 st) := (hb4.cell (p := ⟨b, k * 6, none⟩) hbs).trans e0'
    have e24 := (hb4.cell (p := ⟨b, k * 6 + 2, none⟩) hbs).trans e2
    have e44 := (hb4.cell (p := ⟨b, k * 6 + 4, none⟩) hbs).trans e4
    have i04 := hown4.frozenAt (k * 6)
    have i24 := hown4.frozenAt (k * 6 + 2)
    have i44 := hown4.frozenAt (k * 6 + 4)
    have hbs4 : b < x4.heap.size := Nat.lt_of_lt_of_le hbs hb4.size
    clear hP hZ hQ hB hO hown o0 o1 o2 o3 e0' e2 e4 i0 i2 i4 hb4 q1 y1 hwr
    have hcv := one_byteT x4 by8 (48 + st) hb8
    by_cases hin : st ∈ ([1, 2, 3] : List Int)
    · have HCN := hd_ (show decide (0 <= Lib.indexByte [49, 50, 51] by8) = true by rw [HMY.out]; simpa using hin)
      have HT1 := hd_ (show tell1 p ⟨2, (k : Int), ob, oc⟩ = (p.setShip k { p.ship k with state := 4, since := 0 }, 0, 0) by rw [HT.out, if_pos (HSE.out.trans (if_pos hin)), Int.toNat_natCast])
      clear HT HSE HMY hin
      go_upto_region 26 with (go_at_call 71; refine (Tryz.strings_Contains_one ⟨#[49, 50, 51]⟩ by8 _).mono ?_; rintro e w' ⟨rfl, hw'⟩; obtain rfl := hw'.symm; rw [show decide (0 <= Lib.indexByte (⟨#[49, 50, 51]⟩ : ByteArray).data.toList by8) = true from HCN.out])
      obtain ⟨Y, hY⟩ : ∃ Y, Y = x4.alloc (.cells #[.int .u8 (48 + st)] 5) := ⟨_, rfl⟩
      have hP5 := hP4.alloc (.cells #[.int .u8 (48 + st)] 5)
      have hZ5 := hZ4.alloc (.cells #[.int .u8 (48 + st)] 5)
      have hQ5 := hQ4.alloc (.cells #[.int .u8 (48 + st)] 5)
      have hB5 := hB4.alloc hB4.size (.cells #[.int .u8 (48 + st)] 5)
      have hown5 := World.ownsRow.alloc hown4 (.cells #[.int .u8 (48 + st)] 5)
      have hO5 := (Below.heap_alloc x4 (.cells #[.int .u8 (48 + st)] 5) (w.heap.size + 1) (Array.getElem?_eq_some_iff.1 hO4).1).trans hO4
      have e05 := (World.cell?_alloc_lt x4 (.cells #[.int .u8 (48 + st)] 5) ⟨b, k * 6, none⟩ hbs4).trans e04
      have e25 := (World.cell?_alloc_lt x4 (.cells #[.int .u8 (48 + st)] 5) ⟨b, k * 6 + 2, none⟩ hbs4).trans e24
      have e45 := (World.cell?_alloc_lt x4 (.cells #[.int .u8 (48 + st)] 5) ⟨b, k * 6 + 4, none⟩ hbs4).trans e44
      rw [<- hY] at hP5 hZ5 hQ5 hB5 hown5 hO5 e05 e25 e45
      rw [<- hY]
      have hbs5 : b < Y.heap.size := (World.ownsRow.lt hown5 b rfl).2
      have i05 := hown5.frozenAt (k * 6)
      have i25 := hown5.frozenAt (k * 6 + 2)
      have i45 := hown5.frozenAt (k * 6 + 4)
      clear hY hP4 hZ4 hQ4 hB4 hown4 hO4 e04 e24 e44 i04 i24 i44 hcv hbs4
      have hoc : ∀ i, i < 4 -> Y.cell? ⟨w.heap.size + 1, i, none⟩ = (#[.int .i64 2, .int .i64 (k : Int), .int .i64 ob, .int .i64 oc] : Array Value)[i]? := fun i hi => cell_of_row _ _ i _ _ _ hO5
      have o05 := hoc 0 (by omega)
      have o25 := hoc 2 (by omega)
      clear hoc
      go_upto_region 52 with (fail)
      have hown6 := (own_gone (x := 4) (y := 0) hown5 hk)
      have hP6 := ((hP5.beside ⟨b, k * 6, none⟩ (.int .i64 4) (by simp; omega)).beside ⟨b, k * 6 + 4, none⟩ (.int .i64 0) (by simp; omega))
      have hZ6 := ((hZ5.beside ⟨b, k * 6, none⟩ (.int .i64 4) (by simp; omega)).beside ⟨b, k * 6 + 4, none⟩ (.int .i64 0) (by simp; omega))
      have hQ6 := ((hQ5.beside ⟨b, k * 6, none⟩ (.int .i64 4) (by simpa using hnbg)).beside ⟨b, k * 6 + 4, none⟩ (.int .i64 0) (by simpa using hnbg))
      have hB6 := ((hB5.setCell (p := ⟨b, k * 6, none⟩) (by simp; omega) (.int .i64 4)).setCell (p := ⟨b, k * 6 + 4, none⟩) (by simp; omega) (.int .i64 0))
      obtain ⟨Q5, hq5⟩ : ∃ Q5, p.setShip k { p.ship k with state := 4, since := 0 } = Q5 := ⟨_, rfl⟩
      rw [hq5] at HT1
      have hownQ : OwnK ((Y.setCell ⟨b, k * 6, none⟩ (.int .i64 4)).setCell ⟨b, k * 6 + 4, none⟩ (.int .i64 0)) (w.heap.size + 3) (.slice (some ⟨b, 0, none⟩) Q5.ships.length c2) Q5.ships := by rw [<- hq5]; exact hown6
      have hQ7 : PortAt ((Y.setCell ⟨b, k * 6, none⟩ (.int .i64 4)).setCell ⟨b, k * 6 + 4, none⟩ (.int .i64 0)) g8 Q5 (some ⟨b, 0, none⟩) c2 := by
        rw [<- hq5]
        have := hQ6
        unfold PortAt at this ⊢
        simpa [portA, Port.setShip, Port.keep] using this
      obtain ⟨X, hX⟩ : ∃ X, X = ((Y.setCell ⟨b, k * 6, none⟩ (.int .i64 4)).setCell ⟨b, k * 6 + 4, none⟩ (.int .i64 0)) := ⟨_, rfl⟩
      rw [<- hX] at hownQ hQ7 hP6 hZ6 hB6
      rw [<- hX]
      clear hX hq5 hown6 hQ6 hP5 hZ5 hQ5 hB5 hown5 hO5 o05 o25 e05 e25 e45 i05 i25 i45
      have hQ := hQ7
      have hown := hownQ
      have hP := hP6
      have hZ := hZ6
      have hB := hB6
      clear hQ7 hownQ hP6 hZ6 hB6
      have HFQ := hd_ (tell1_fair2 HFR.out HT1.out)
      cases hbq : (baseL Q5).2 with
      | true =>
        have HE := hd_ (tellL_ok HT1.out hbq)
        have HB := hd_ hbq
        clear hbq
        go_wp2_with (first
          | (refine wLP rfl rfl ?hx hQ ?_; (case hx => first | rfl | (simp [aE, aP]; done)))
          | (go_at_call 47; refine (baseOf_any Q5 (some ⟨b, 0, none⟩) c2 _ HFQ.out (Sl.of_own hown)).mono ?_; rintro e w5 ⟨fs, hfl, _, rfl, hb5⟩; rw [HB.out]; have hQ5 := hQ.below hb5 hQ.lt; have hZ5 := hZ.below hb5 hZ.lt; have hB5 := bG_ hB hb5; have hown5 := oBl hown hb5; clear hb5)
          | (refine wAA rfl rfl ?_; intro w6 gB b1 b2 hA6 hb6; have hQ6 := hQ5.below hb6 hQ5.lt; have hZ6 := hZ5.below hb6 hZ5.lt; have hB6 := bG_ hB5 hb6; have hown6 := oBl hown5 hb6)
          | (refine wSA rfl rfl (by first | rfl | simp [aE, aP]) (by first | rfl | simp [aE, aP]) hA6 hfl ?_; intro w7 hA7 hr7; have hQ7 := hQ6.one hr7 (by have := hQ5.lt; omega); have hZ7 := hZ6.one hr7 (by have := hZ5.lt; omega); have hB7 := hB6.trans (hr7.below (n := w.heap.size) (by have := hB5.size; omega)); have hown7 := own_one' hown6 hr7 (fun e => by have := oBk hown5 _ e; have h2 := World.ownsRow.lt hown5 _ e; omega))
          | (refine wLP rfl rfl ?hx hQ7 ?_; (case hx => first | rfl | (simp [aE, aP]; done)))
          | (refine wSP rfl rfl (by first | rfl | simp [aE, aP]) (by first | rfl | simp [aE, aP]) hZ7 ?_; intro w8 hZ8 hr8))
        refine bodyPost_ret (rP3 rfl _ _ (w.heap.size + 2) rfl hZ8) rfl ?_
        rw [HE.out]
        have hown8 := own_one hown7 hr8 (by omega)
        exact ⟨(some ⟨b, 0, none⟩), c2, rfl, Sl.of_own hown8, ownK_cap hown8, hB7.trans (hr8.below (n := w.heap.size) (by omega)), fun _ => (ownK_fr hown8).mono (by omega)⟩
      | false =>
        have HR := hd_ (tellL_no6 HT1.out hbq)
        have HB := hd_ hbq
        clear hbq
        go_wp2_with (first
          | (refine wLP rfl rfl ?hx hQ ?_; (case hx => first | rfl | (simp [aE, aP]; done)))
          | (go_at_call 47; refine (baseOf_any Q5 (some ⟨b, 0, none⟩) c2 _ HFQ.out (Sl.of_own hown)).mono ?_; rintro e w5 ⟨fs, hfl, _, rfl, hb5⟩; rw [HB.out]; have hP5 := hP.below hb5 hP.lt; have hZ5 := hZ.below hb5 hZ.lt; have hB5 := bG_ hB hb5; clear hb5)
          | (refine wAA rfl rfl ?_; intro w6 gB b1 b2 hA6 hb6; have hP6 := hP5.below hb6 hP5.lt; have hZ6 := hZ5.below hb6 hZ5.lt; have hB6 := bG_ hB5 hb6)
          | (refine wSA rfl rfl (by first | rfl | simp [aE, aP]) (by first | rfl | simp [aE, aP]) hA6 hfl ?_; intro w7 hA7 hr7; have hP7 := hP6.one hr7 (by have := hP5.lt; omega); have hZ7 := hZ6.one hr7 (by have := hZ5.lt; omega); have hB7 := hB6.trans (hr7.below (n := w.heap.size) (by have := hB5.size; omega)))
          | (go_at_call 70; refine (noP_any p A c w.heap.size 6 _ hP7).mono ?_; rintro e w8 ⟨rfl, hb8⟩; have hZ8 := hZ7.below hb8 hZ7.lt)
          | (refine wSP rfl rfl (by first | rfl | simp [aE, aP]) (by first | rfl | simp [aE, aP]) hZ8 ?_; intro w9 hZ9 hr9))
        refine bodyPost_ret (rP3 rfl _ _ (w.heap.size + 2) rfl hZ9) rfl ?_
        have hB9 := (bG_ hB7 hb8).trans (hr9.below (n := w.heap.size) (by omega))
        rw [HR.out]
        exact ⟨A, c, rfl, Sl.below HIN.out hB9, HCAP.out, hB9, fun h => by cases h⟩
    · have HCN := hd_ (show decide (0 <= Lib.indexByte [49, 50, 51] by8) = false by rw [HMY.out]; simpa using hin)
      have HR := hd_ (tellL_err (e := 4) (show tell1 p ⟨2, (k : Int), ob, oc⟩ = (p, 0, 4) by rw [HT.out, HSE.out, if_neg hin]; rfl) (by decide))
      clear HT HSE HMY hin
      go_upto_region 25 with (go_at_call 71; refine (Tryz.strings_Contains_one ⟨#[49, 50, 51]⟩ by8 _).mono ?_; rintro e w' ⟨rfl, hw'⟩; obtain rfl := hw'.symm; rw [show decide (0 <= Lib.indexByte (⟨#[49, 50, 51]⟩ : ByteArray).data.toList by8) = false from HCN.out])
      have hP := hP4.alloc (.cells #[.int .u8 (48 + st)] 5)
      have hZ := hZ4.alloc (.cells #[.int .u8 (48 + st)] 5)
      have hB := hB4.alloc hB4.size (.cells #[.int .u8 (48 + st)] 5)
      go_wp2_with (first
        | (go_at_call 70; refine (noP_any p A c w.heap.size 4 _ hP).mono ?_; rintro e w5 ⟨rfl, hb5⟩; have hZ5 := hZ.below hb5 hZ.lt)
        | (refine wSP rfl rfl (by first | rfl | simp [aE, aP]) (by first | rfl | simp [aE, aP]) hZ5 ?_; intro w7 hZ7 hr7))
      refine bodyPost_ret (rP3 rfl _ _ (w.heap.size + 2) rfl hZ7) rfl ?_
      have hB7 := (bG_ hB hb5).trans (hr7.below (n := w.heap.size) (by omega))
      rw [HR.out]
      exact ⟨A, c, rfl, Sl.below HIN.out hB7, HCAP.out, hB7, fun h => by cases h⟩
  · have HA := hd_ (show (decide ((0 : Int) <= oa) && decide (oa <= (p.ships.length : Int) - 1)) = false by simp; omega)
    have HR := hd_ (tellL_err (e := 3) (show tell1 p ⟨2, oa, ob, oc⟩ = (p, 0, 3) by rw [HT.out, show shipE p oa [1, 2, 3] = 3 by unfold shipE; rw [if_pos (by omega)]]; rfl) (by decide))
    clear HT hr
    go_wp2_with (first
      | (go_at_call 41; (with_reducible refine (wI_ _ HA.out).mono ?_); rintro e w' ⟨rfl, hw'⟩; obtain rfl := hw'.symm)
      | (go_at_call 70; refine (noP_any p A c w.heap.size 3 _ hP).mono ?_; rintro e w5 ⟨rfl, hb5⟩; have hZ5 := hZ.below hb5 hZ.lt)
      | (refine wSP rfl rfl (by first | rfl | simp [aE, aP]) (by first | rfl | simp [aE, aP]) hZ5 ?_; intro w7 hZ7 hr7))
    refine bodyPost_ret (rP3 rfl _ _ (w.heap.size + 2) rfl hZ7) rfl ?_
    have hB7 := (bG_ hB hb5).trans (hr7.below (n := w.heap.size) (by omega))
    rw [HR.out]
    exact ⟨A, c, rfl, Sl.below HIN.out hB7, HCAP.out, hB7, fun h => by cases h⟩
set_option maxRecDepth 100000 in
theorem refTell_hold (p : Port) (A : Option Addr) (c : Nat) (oa ob oc : Int) (w : World) (hg : PGood p) (hcap : p.ships.length <= c) (hin : InP w p A) :
    Calls Tryz.prog 45 #[.agg (portA p A c), .agg (orA ⟨3, oa, ob, oc⟩)] w (RetTellC (tellL p ⟨3, oa, ob, oc⟩) w) := by
  have HT := hd_ (show tell1 p ⟨3, oa, ob, oc⟩ = if shipE p oa [1] = 0 then (p.setShip oa.toNat { p.ship oa.toNat with state := 2 }, 0, 0) else (p, 0, shipE p oa [1]) from rfl)
  have hlen := hg.len
  have H4 := hd_ hg.four
  have HFR := hd_ hg.toFair
  have HP := hd_ (fair_wf hg.toFair)
  have HG := hd_ ((goodP_iff hg.four).2 hg)
  have HIN := hd_ hin
  have HCAP := hd_ hcap
  clear hg hcap
  simp only [portA, orA]
  go_enter Tryz.func45, Tryz.ntmps45
  have hP0 : PortAt (((w.alloc (.cells (portA p A c) 36)).alloc (.cells (orA ⟨3, oa, ob, oc⟩) 41)).alloc (.cells (portA Port.zero none 0) 36)) w.heap.size p A c := ((PortAt.new w p A c).alloc _).alloc _
  have hO0 : (((w.alloc (.cells (portA p A c) 36)).alloc (.cells (orA ⟨3, oa, ob, oc⟩) 41)).alloc (.cells (portA Port.zero none 0) 36)).heap[w.heap.size + 1]? = some (.cells (orA ⟨3, oa, ob, oc⟩) 41 (0, 0)) := by
    have h1 := heap_alloc_new (w.alloc (.cells (portA p A c) 36)) (.cells (orA ⟨3, oa, ob, oc⟩) 41)
    have h2 := Below.heap_alloc ((w.alloc (.cells (portA p A c) 36)).alloc (.cells (orA ⟨3, oa, ob, oc⟩) 41)) (.cells (portA Port.zero none 0) 36) (w.heap.size + 1) (by simp)
    rw [h2]; simpa using h1
  have hZ0 : PortAt (((w.alloc (.cells (portA p A c) 36)).alloc (.cells (orA ⟨3, oa, ob, oc⟩) 41)).alloc (.cells (portA Port.zero none 0) 36)) (w.heap.size + 2) Port.zero none 0 := by
    have := PortAt.new ((w.alloc (.cells (portA p A c) 36)).alloc (.cells (orA ⟨3, oa, ob, oc⟩) 41)) Port.zero none 0
    simpa using this
  have hB0 : Below w.heap.size w (((w.alloc (.cells (portA p A c) 36)).alloc (.cells (orA ⟨3, oa, ob, oc⟩) 41)).alloc (.cells (portA Port.zero none 0) 36)) := (((Below.refl _ _).alloc (Nat.le_refl _) _).alloc (by simp) _).alloc (by simp; omega) _
  have hs0 : (((w.alloc (.cells (portA p A c) 36)).alloc (.cells (orA ⟨3, oa, ob, oc⟩) 41)).alloc (.cells (portA Port.zero none 0) 36)).heap.size = w.heap.size + 3 := by simp
  obtain ⟨W0, hW0⟩ : ∃ W0, W0 = (((w.alloc (.cells (portA p A c) 36)).alloc (.cells (orA ⟨3, oa, ob, oc⟩) 41)).alloc (.cells (portA Port.zero none 0) 36)) := ⟨_, rfl⟩
  rw [<- hW0] at hP0 hO0 hZ0 hB0 hs0
  rw [zeroA] at hW0
  simp only [portA, orA] at hW0
  have HW0 := hd_ hW0
  clear hW0
  go_upto_region 2 with (fail)
  rw [<- HW0.out]
  clear HW0
  go_wp2_with (refine wLP rfl rfl (by first | rfl | simp [aE, aP]) hP0 ?_)
  refine (isPort_any p A c _ HP.out HCAP.out (Sl.below hin hB0)).mono ?_
  rintro e w1 ⟨rfl, hb1⟩
  rw [HG.out]
  have hP1 := hP0.below hb1 (by rw [hs0]; omega)
  have hZ1 := hZ0.below hb1 (by rw [hs0]; omega)
  have hO1 := (hb1.block (w.heap.size + 1) (by rw [hs0]; omega)).trans hO0
  have hB1 := bG_ hB0 hb1
  have hs1 := hb1.size
  rw [hs0] at hs1
  clear hP0 hZ0 hB0 hO0 hb1 hs0 HP HG
  go_upto_region 6 with (first
    | (refine wLP rfl rfl (by first | rfl | simp [aE, aP]) hP1 ?_)
    | (go_at_call 44; refine (copyP_any p A c _ (Sl.below hin hB1) (by unfold maxLen; omega) (by omega)).mono ?_; rintro e w2 ⟨A2, c2, rfl, ho2, hb2⟩; have hZ8 := PortAt.new w2 Port.zero none 0)
    | (refine wSP rfl rfl (by first | rfl | simp [aE, aP]) (by first | rfl | simp [aE, aP]) hZ8 ?_; intro W hQ hr8))
  have hb8 : Below w2.heap.size w2 W := ((Below.refl _ _).alloc (Nat.le_refl _) _).trans (hr8.below (Nat.le_refl _))
  have hs2 := hb2.size
  have hb3 := bG_ hb2 hb8
  have hP := hP1.below hb3 (by omega)
  have hZ := hZ1.below hb3 (by omega)
  have hO := (hb3.block (w.heap.size + 1) (by omega)).trans hO1
  have hB := bG_ hB1 hb3
  have hown : OwnK W (w.heap.size + 3) (.slice A2 p.ships.length c2) p.ships := own_weak (oBl ho2 hb8) hs1
  have hog : (Value.slice A2 p.ships.length c2).ownBlock ≠ some w2.heap.size := fun e => by
    rcases ho2.2 with ⟨hv, _⟩ | ⟨gg, cap, cur, hv, _, hh, _⟩
    · rw [hv] at e; cases e
    · rw [hv] at e; simp only [Value.ownBlock, Option.some.injEq] at e
      have := (Array.getElem?_eq_some_iff.1 hh).1
      omega
  have hg8 : w.heap.size + 3 <= w2.heap.size := by omega
  obtain ⟨g8, hg8e⟩ : ∃ g8, w2.heap.size = g8 := ⟨_, rfl⟩
  rw [hg8e] at hQ hog hg8
  rw [hg8e]
  clear hP1 hZ1 hO1 hB1 hb2 hb8 hb3 hr8 hZ8 ho2 hs1 hs2 hg8e hin
  have hoc : ∀ i, i < 4 -> W.cell? ⟨w.heap.size + 1, i, none⟩ = (orA ⟨3, oa, ob, oc⟩)[i]? := fun i hi => cell_of_row _ _ i _ _ _ hO
  have o0 := hoc 0 (by omega)
  have o1 := hoc 1 (by omega)
  have o2 := hoc 2 (by omega)
  have o3 := hoc 3 (by omega)
  simp only [orA] at o0 o1 o2 o3
  clear hoc
  have q1 := hP.ships
  have hwr : IntKind.i64.wrap ((p.ships.length : Int) - 1) = (p.ships.length : Int) - 1 := IntWalk.i64_in _ (by omega)
  by_cases hr : 0 <= oa /\ oa < (p.ships.length : Int)
  · obtain ⟨k, rfl⟩ : ∃ k : Nat, oa = k := ⟨oa.toNat, by omega⟩
    have hk : k < p.ships.length := by omega
    have HA := hd_ (show (decide ((0 : Int) <= (k : Int)) && decide ((k : Int) <= (p.ships.length : Int) - 1)) = true by simp; omega)
    have HSE := hd_ (show shipE p k [1] = if (p.ship k).state ∈ ([1] : List Int) then 0 else 4 by unfold shipE; rw [if_neg (by omega), Int.toNat_natCast])
    clear hr
    obtain ⟨b, hA2, hbl, hbs⟩ := ownK_at hown (by omega)
    obtain ⟨_, F⟩ := found hQ hown hog hk hA2
    subst hA2
    have y1 := hQ.ships
    have hstr := (HFR.out.ship k hk).1.state
    have e0 := F.cells 0 (by omega)
    have e2 := F.cells 2 (by omega)
    have e4 := F.cells 4 (by omega)
    rw [Nat.add_zero] at e0
    simp only [shipV] at e0 e2 e4
    have i0 := F.ice (k * 6)
    have i2 := F.ice (k * 6 + 2)
    have i4 := F.ice (k * 6 + 4)
    have hnbg : b ≠ g8 := F.ne
    clear F
    obtain ⟨by8, hb8, hb8w, hm1, hm2, hm3⟩ := st_byte hstr
    have HMY := hd_ hm2
    clear hm1 hm2 hm3
    obtain ⟨st, hst⟩ : ∃ st, (p.ship k).state = st := ⟨_, rfl⟩
    have e0' : W.cell? ⟨b, k * 6, none⟩ = some (.int .i64 st) := by rw [<- hst]; exact e0
    rw [hst] at HSE hstr hb8 hb8w HMY
    have HST := hd_ hst
    clear e0 hst
    have hm0 : MayAt (W.alloc (.map #[] 0)) W.heap.size 0 (fun _ => []) := MayAt.made W
    have hmm := run_makeMap (P := Tryz.prog) 115
    have hbm0 : Below W.heap.size W (W.alloc (.map #[] 0)) := (Below.refl _ _).alloc (Nat.le_refl _) _
    go_upto_region 23 with (first
      | (go_at_call 41; (with_reducible refine (wI_ _ HA.out).mono ?_); rintro e w' ⟨rfl, hw'⟩; obtain rfl := hw'.symm))
    go_upto_region 24 with (first
      | (refine wPM (q := 2) (s := ⟨#[49, 50, 51]⟩) rfl rfl (by first | rfl | simp [aE, aP]) (by first | rfl | simp [aE, aP]) (by first | rfl | simp [aE, aP]) hm0 (by omega) (by unfold i64; omega) ?_; intro x1 hm1 hg1; have hbm1 := hbm0.grown hg1 (by simp) (fun j hj => by cases hj; exact Nat.le_refl _))
      | (refine wPM (q := 3) (s := ⟨#[49]⟩) rfl rfl (by first | rfl | simp [aE, aP]) (by first | rfl | simp [aE, aP]) (by first | rfl | simp [aE, aP]) hm1 (by omega) (by unfold i64; omega) ?_; intro x2 hm2 hg2; have hbm2 := hbm1.grown hg2 hbm1.size (fun j hj => by cases hj; exact Nat.le_refl _))
      | (refine wPM (q := 4) (s := ⟨#[50]⟩) rfl rfl (by first | rfl | simp [aE, aP]) (by first | rfl | simp [aE, aP]) (by first | rfl | simp [aE, aP]) hm2 (by omega) (by unfold i64; omega) ?_; intro x3 hm3 hg3; have hbm3 := hbm2.grown hg3 hbm2.size (fun j hj => by cases hj; exact Nat.le_refl _))
      | (refine wPM (q := 5) (s := ⟨#[49, 50, 51]⟩) rfl rfl (by first | rfl | simp [aE, aP]) (by first | rfl | simp [aE, aP]) (by first | rfl | simp [aE, aP]) hm3 (by omega) (by unfold i64; omega) ?_; intro x4 hm4 hg4; have hbm4 := hbm3.grown hg4 hbm3.size (fun j hj => by cases hj; exact Nat.le_refl _); have o04 := (hbm4.cell (p := ⟨w.heap.size + 1, 0, none⟩) (Array.getElem?_eq_some_iff.1 hO).1).trans o0)
      | (refine wpList_look_may (q := 3) (l := [49]) rfl rfl (by first | rfl | simp [aE, aP]) (by first | rfl | simp [aE, aP]) hm4 (by unfold i64; omega) rfl ?_))
    have hb4 : Below W.heap.size W x4 := hbm4
    clear hm0 hm1 hm2 hm3 hm4 hg1 hg2 hg3 hg4 hbm0 hbm1 hbm2 hbm3 hbm4 hmm o04
    have hP4 := hP.below hb4 hP.lt
    have hZ4 := hZ.below hb4 hZ.lt
    have hQ4 := hQ.below hb4 hQ.lt
    have hB4 := bG_ hB hb4
    have hO4 := (hb4.block (w.heap.size + 1) (Array.getElem?_eq_some_iff.1 hO).1).trans hO
    have hown4 := oBl hown hb4
    have e04 : x4.cell? ⟨b, k * 6, none⟩ = some (.int .i64 st) := (hb4.cell (p := ⟨b, k * 6, none⟩) hbs).trans e0'
    have e24 := (hb4.cell (p := ⟨b, k * 6 + 2, none⟩) hbs).trans e2
    have e44 := (hb4.cell (p := ⟨b, k * 6 + 4, none⟩) hbs).trans e4
    have i04 := hown4.frozenAt (k * 6)
    have i24 := hown4.frozenAt (k * 6 + 2)
    have i44 := hown4.frozenAt (k * 6 + 4)
    have hbs4 : b < x4.heap.size := Nat.lt_of_lt_of_le hbs hb4.size
    clear hP hZ hQ hB hO hown o0 o1 o2 o3 e0' e2 e4 i0 i2 i4 hb4 q1 y1 hwr
    have hcv := one_byteT x4 by8 (48 + st) hb8
    by_cases hin : st ∈ ([1] : List Int)
    · have HCN := hd_ (show decide (0 <= Lib.indexByte [49] by8) = true by rw [HMY.out]; simpa using hin)
      have HT1 := hd_ (show tell1 p ⟨3, (k : Int), ob, oc⟩ = (p.setShip k { p.ship k with state := 2 }, 0, 0) by rw [HT.out, if_pos (HSE.out.trans (if_pos hin)), Int.toNat_natCast])
      clear HT HSE HMY hin
      go_upto_region 26 with (go_at_call 71; refine (Tryz.strings_Contains_one ⟨#[49]⟩ by8 _).mono ?_; rintro e w' ⟨rfl, hw'⟩; obtain rfl := hw'.symm; rw [show decide (0 <= Lib.indexByte (⟨#[49]⟩ : ByteArray).data.toList by8) = true from HCN.out])
      obtain ⟨Y, hY⟩ : ∃ Y, Y = x4.alloc (.cells #[.int .u8 (48 + st)] 5) := ⟨_, rfl⟩
      have hP5 := hP4.alloc (.cells #[.int .u8 (48 + st)] 5)
      have hZ5 := hZ4.alloc (.cells #[.int .u8 (48 + st)] 5)
      have hQ5 := hQ4.alloc (.cells #[.int .u8 (48 + st)] 5)
      have hB5 := hB4.alloc hB4.size (.cells #[.int .u8 (48 + st)] 5)
      have hown5 := World.ownsRow.alloc hown4 (.cells #[.int .u8 (48 + st)] 5)
      have hO5 := (Below.heap_alloc x4 (.cells #[.int .u8 (48 + st)] 5) (w.heap.size + 1) (Array.getElem?_eq_some_iff.1 hO4).1).trans hO4
      have e05 := (World.cell?_alloc_lt x4 (.cells #[.int .u8 (48 + st)] 5) ⟨b, k * 6, none⟩ hbs4).trans e04
      have e25 := (World.cell?_alloc_lt x4 (.cells #[.int .u8 (48 + st)] 5) ⟨b, k * 6 + 2, none⟩ hbs4).trans e24
      have e45 := (World.cell?_alloc_lt x4 (.cells #[.int .u8 (48 + st)] 5) ⟨b, k * 6 + 4, none⟩ hbs4).trans e44
      rw [<- hY] at hP5 hZ5 hQ5 hB5 hown5 hO5 e05 e25 e45
      rw [<- hY]
      have hbs5 : b < Y.heap.size := (World.ownsRow.lt hown5 b rfl).2
      have i05 := hown5.frozenAt (k * 6)
      have i25 := hown5.frozenAt (k * 6 + 2)
      have i45 := hown5.frozenAt (k * 6 + 4)
      clear hY hP4 hZ4 hQ4 hB4 hown4 hO4 e04 e24 e44 i04 i24 i44 hcv hbs4
      have hoc : ∀ i, i < 4 -> Y.cell? ⟨w.heap.size + 1, i, none⟩ = (#[.int .i64 3, .int .i64 (k : Int), .int .i64 ob, .int .i64 oc] : Array Value)[i]? := fun i hi => cell_of_row _ _ i _ _ _ hO5
      have o05 := hoc 0 (by omega)
      have o25 := hoc 2 (by omega)
      clear hoc
      go_upto_region 52 with (fail)
      have hown6 := (own_state (x := 2) hown5 hk)
      have hP6 := (hP5.beside ⟨b, k * 6, none⟩ (.int .i64 2) (by simp; omega))
      have hZ6 := (hZ5.beside ⟨b, k * 6, none⟩ (.int .i64 2) (by simp; omega))
      have hQ6 := (hQ5.beside ⟨b, k * 6, none⟩ (.int .i64 2) (by simpa using hnbg))
      have hB6 := (hB5.setCell (p := ⟨b, k * 6, none⟩) (by simp; omega) (.int .i64 2))
      obtain ⟨Q5, hq5⟩ : ∃ Q5, p.setShip k { p.ship k with state := 2 } = Q5 := ⟨_, rfl⟩
      rw [hq5] at HT1
      have hownQ : OwnK (Y.setCell ⟨b, k * 6, none⟩ (.int .i64 2)) (w.heap.size + 3) (.slice (some ⟨b, 0, none⟩) Q5.ships.length c2) Q5.ships := by rw [<- hq5]; exact hown6
      have hQ7 : PortAt (Y.setCell ⟨b, k * 6, none⟩ (.int .i64 2)) g8 Q5 (some ⟨b, 0, none⟩) c2 := by
        rw [<- hq5]
        have := hQ6
        unfold PortAt at this ⊢
        simpa [portA, Port.setShip, Port.keep] using this
      obtain ⟨X, hX⟩ : ∃ X, X = (Y.setCell ⟨b, k * 6, none⟩ (.int .i64 2)) := ⟨_, rfl⟩
      rw [<- hX] at hownQ hQ7 hP6 hZ6 hB6
      rw [<- hX]
      clear hX hq5 hown6 hQ6 hP5 hZ5 hQ5 hB5 hown5 hO5 o05 o25 e05 e25 e45 i05 i25 i45
      have hQ := hQ7
      have hown := hownQ
      have hP := hP6
      have hZ := hZ6
      have hB := hB6
      clear hQ7 hownQ hP6 hZ6 hB6
      have HFQ := hd_ (tell1_fair2 HFR.out HT1.out)
      cases hbq : (baseL Q5).2 with
      | true =>
        have HE := hd_ (tellL_ok HT1.out hbq)
        have HB := hd_ hbq
        clear hbq
        go_wp2_with (first
          | (refine wLP rfl rfl ?hx hQ ?_; (case hx => first | rfl | (simp [aE, aP]; done)))
          | (go_at_call 47; refine (baseOf_any Q5 (some ⟨b, 0, none⟩) c2 _ HFQ.out (Sl.of_own hown)).mono ?_; rintro e w5 ⟨fs, hfl, _, rfl, hb5⟩; rw [HB.out]; have hQ5 := hQ.below hb5 hQ.lt; have hZ5 := hZ.below hb5 hZ.lt; have hB5 := bG_ hB hb5; have hown5 := oBl hown hb5; clear hb5)
          | (refine wAA rfl rfl ?_; intro w6 gB b1 b2 hA6 hb6; have hQ6 := hQ5.below hb6 hQ5.lt; have hZ6 := hZ5.below hb6 hZ5.lt; have hB6 := bG_ hB5 hb6; have hown6 := oBl hown5 hb6)
          | (refine wSA rfl rfl (by first | rfl | simp [aE, aP]) (by first | rfl | simp [aE, aP]) hA6 hfl ?_; intro w7 hA7 hr7; have hQ7 := hQ6.one hr7 (by have := hQ5.lt; omega); have hZ7 := hZ6.one hr7 (by have := hZ5.lt; omega); have hB7 := hB6.trans (hr7.below (n := w.heap.size) (by have := hB5.size; omega)); have hown7 := own_one' hown6 hr7 (fun e => by have := oBk hown5 _ e; have h2 := World.ownsRow.lt hown5 _ e; omega))
          | (refine wLP rfl rfl ?hx hQ7 ?_; (case hx => first | rfl | (simp [aE, aP]; done)))
          | (refine wSP rfl rfl (by first | rfl | simp [aE, aP]) (by first | rfl | simp [aE, aP]) hZ7 ?_; intro w8 hZ8 hr8))
        refine bodyPost_ret (rP3 rfl _ _ (w.heap.size + 2) rfl hZ8) rfl ?_
        rw [HE.out]
        have hown8 := own_one hown7 hr8 (by omega)
        exact ⟨(some ⟨b, 0, none⟩), c2, rfl, Sl.of_own hown8, ownK_cap hown8, hB7.trans (hr8.below (n := w.heap.size) (by omega)), fun _ => (ownK_fr hown8).mono (by omega)⟩
      | false =>
        have HR := hd_ (tellL_no6 HT1.out hbq)
        have HB := hd_ hbq
        clear hbq
        go_wp2_with (first
          | (refine wLP rfl rfl ?hx hQ ?_; (case hx => first | rfl | (simp [aE, aP]; done)))
          | (go_at_call 47; refine (baseOf_any Q5 (some ⟨b, 0, none⟩) c2 _ HFQ.out (Sl.of_own hown)).mono ?_; rintro e w5 ⟨fs, hfl, _, rfl, hb5⟩; rw [HB.out]; have hP5 := hP.below hb5 hP.lt; have hZ5 := hZ.below hb5 hZ.lt; have hB5 := bG_ hB hb5; clear hb5)
          | (refine wAA rfl rfl ?_; intro w6 gB b1 b2 hA6 hb6; have hP6 := hP5.below hb6 hP5.lt; have hZ6 := hZ5.below hb6 hZ5.lt; have hB6 := bG_ hB5 hb6)
          | (refine wSA rfl rfl (by first | rfl | simp [aE, aP]) (by first | rfl | simp [aE, aP]) hA6 hfl ?_; intro w7 hA7 hr7; have hP7 := hP6.one hr7 (by have := hP5.lt; omega); have hZ7 := hZ6.one hr7 (by have := hZ5.lt; omega); have hB7 := hB6.trans (hr7.below (n := w.heap.size) (by have := hB5.size; omega)))
          | (go_at_call 70; refine (noP_any p A c w.heap.size 6 _ hP7).mono ?_; rintro e w8 ⟨rfl, hb8⟩; have hZ8 := hZ7.below hb8 hZ7.lt)
          | (refine wSP rfl rfl (by first | rfl | simp [aE, aP]) (by first | rfl | simp [aE, aP]) hZ8 ?_; intro w9 hZ9 hr9))
        refine bodyPost_ret (rP3 rfl _ _ (w.heap.size + 2) rfl hZ9) rfl ?_
        have hB9 := (bG_ hB7 hb8).trans (hr9.below (n := w.heap.size) (by omega))
        rw [HR.out]
        exact ⟨A, c, rfl, Sl.below HIN.out hB9, HCAP.out, hB9, fun h => by cases h⟩
    · have HCN := hd_ (show decide (0 <= Lib.indexByte [49] by8) = false by rw [HMY.out]; simpa using hin)
      have HR := hd_ (tellL_err (e := 4) (show tell1 p ⟨3, (k : Int), ob, oc⟩ = (p, 0, 4) by rw [HT.out, HSE.out, if_neg hin]; rfl) (by decide))
      clear HT HSE HMY hin
      go_upto_region 25 with (go_at_call 71; refine (Tryz.strings_Contains_one ⟨#[49]⟩ by8 _).mono ?_; rintro e w' ⟨rfl, hw'⟩; obtain rfl := hw'.symm; rw [show decide (0 <= Lib.indexByte (⟨#[49]⟩ : ByteArray).data.toList by8) = false from HCN.out])
      have hP := hP4.alloc (.cells #[.int .u8 (48 + st)] 5)
      have hZ := hZ4.alloc (.cells #[.int .u8 (48 + st)] 5)
      have hB := hB4.alloc hB4.size (.cells #[.int .u8 (48 + st)] 5)
      go_wp2_with (first
        | (go_at_call 70; refine (noP_any p A c w.heap.size 4 _ hP).mono ?_; rintro e w5 ⟨rfl, hb5⟩; have hZ5 := hZ.below hb5 hZ.lt)
        | (refine wSP rfl rfl (by first | rfl | simp [aE, aP]) (by first | rfl | simp [aE, aP]) hZ5 ?_; intro w7 hZ7 hr7))
      refine bodyPost_ret (rP3 rfl _ _ (w.heap.size + 2) rfl hZ7) rfl ?_
      have hB7 := (bG_ hB hb5).trans (hr7.below (n := w.heap.size) (by omega))
      rw [HR.out]
      exact ⟨A, c, rfl, Sl.below HIN.out hB7, HCAP.out, hB7, fun h => by cases h⟩
  · have HA := hd_ (show (decide ((0 : Int) <= oa) && decide (oa <= (p.ships.length : Int) - 1)) = false by simp; omega)
    have HR := hd_ (tellL_err (e := 3) (show tell1 p ⟨3, oa, ob, oc⟩ = (p, 0, 3) by rw [HT.out, show shipE p oa [1] = 3 by unfold shipE; rw [if_pos (by omega)]]; rfl) (by decide))
    clear HT hr
    go_wp2_with (first
      | (go_at_call 41; (with_reducible refine (wI_ _ HA.out).mono ?_); rintro e w' ⟨rfl, hw'⟩; obtain rfl := hw'.symm)
      | (go_at_call 70; refine (noP_any p A c w.heap.size 3 _ hP).mono ?_; rintro e w5 ⟨rfl, hb5⟩; have hZ5 := hZ.below hb5 hZ.lt)
      | (refine wSP rfl rfl (by first | rfl | simp [aE, aP]) (by first | rfl | simp [aE, aP]) hZ5 ?_; intro w7 hZ7 hr7))
    refine bodyPost_ret (rP3 rfl _ _ (w.heap.size + 2) rfl hZ7) rfl ?_
    have hB7 := (bG_ hB hb5).trans (hr7.below (n := w.heap.size) (by omega))
    rw [HR.out]
    exact ⟨A, c, rfl, Sl.below HIN.out hB7, HCAP.out, hB7, fun h => by cases h⟩
end Go.Proofs.YtifmdkcpbajdcabGreatDoor

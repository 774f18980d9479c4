/- Walks: the document's answer to orders that keep room, drop what is kept, shut berths, or are no orders. -/
import Derived.Test.YtifmdkcpbajdcabGreatDoorTurnQ
import Derived.Test.YtifmdkcpbajdcabGreatDoorTellV
import Derived.Test.YtifmdkcpbajdcabGreatDoorRefTc
import Derived.Test.YtifmdkcpbajdcabGreatDoorRefTy
import Derived.Test.YtifmdkcpbajdcabGreatDoorRefTx
import Derived.Test.YtifmdkcpbajdcabGreatDoorRefTch
import Derived.Test.YtifmdkcpbajdcabGreatDoorRefTke
set_option linter.unusedVariables false
set_option linter.unusedSimpArgs false
set_option maxHeartbeats 16000000
namespace Go.Proofs.YtifmdkcpbajdcabGreatDoor
open Go.RowKit Go.Proofs Plain
open Go.Act renaming put -> aP, eval -> aE
open Go.Lib renaming hid -> hd_
set_option maxRecDepth 100000 in
theorem refTell_shut (p : Port) (A : Option Addr) (c : Nat) (oa ob oc : Int) (w : World) (hg : PGood p) (hcap : p.ships.length <= c) (hin : InP w p A) :
    Calls Tryz.prog 45 #[.agg (portA p A c), .agg (orA ⟨8, oa, ob, oc⟩)] w (RetTellC (tellL p ⟨8, oa, ob, oc⟩) w) := by
  have HT := hd_ (show tell1 p ⟨8, oa, ob, oc⟩ = if 0 <= oa /\ oa <= 16 then ({ p with shut := oa }, 0, 0) else (p, 0, 2) from rfl)
  have hlen := hg.len
  have H4 := hd_ hg.four
  have HFR := hd_ hg.toFair
  have HP := hd_ (fair_wf hg.toFair)
  have HG := hd_ ((goodP_iff hg.four).2 hg)
  have HIN := hd_ hin
  have HCAP := hd_ hcap
  clear hg hcap
  simp only [portA, orA]
  go_enter Tryz.func45, Tryz.ntmps45
  have hP0 : PortAt (((w.alloc (.cells (portA p A c) 36)).alloc (.cells (orA ⟨8, oa, ob, oc⟩) 41)).alloc (.cells (portA Port.zero none 0) 36)) w.heap.size p A c := ((PortAt.new w p A c).alloc _).alloc _
  have hO0 : (((w.alloc (.cells (portA p A c) 36)).alloc (.cells (orA ⟨8, oa, ob, oc⟩) 41)).alloc (.cells (portA Port.zero none 0) 36)).heap[w.heap.size + 1]? = some (.cells (orA ⟨8, oa, ob, oc⟩) 41 (0, 0)) := by
    have h1 := heap_alloc_new (w.alloc (.cells (portA p A c) 36)) (.cells (orA ⟨8, oa, ob, oc⟩) 41)
    have h2 := Below.heap_alloc ((w.alloc (.cells (portA p A c) 36)).alloc (.cells (orA ⟨8, oa, ob, oc⟩) 41)) (.cells (portA Port.zero none 0) 36) (w.heap.size + 1) (by simp)
    rw [h2]; simpa using h1
  have hZ0 : PortAt (((w.alloc (.cells (portA p A c) 36)).alloc (.cells (orA ⟨8, oa, ob, oc⟩) 41)).alloc (.cells (portA Port.zero none 0) 36)) (w.heap.size + 2) Port.zero none 0 := by
    have := PortAt.new ((w.alloc (.cells (portA p A c) 36)).alloc (.cells (orA ⟨8, oa, ob, oc⟩) 41)) Port.zero none 0
    simpa using this
  have hB0 : Below w.heap.size w (((w.alloc (.cells (portA p A c) 36)).alloc (.cells (orA ⟨8, oa, ob, oc⟩) 41)).alloc (.cells (portA Port.zero none 0) 36)) := (((Below.refl _ _).alloc (Nat.le_refl _) _).alloc (by simp) _).alloc (by simp; omega) _
  have hs0 : (((w.alloc (.cells (portA p A c) 36)).alloc (.cells (orA ⟨8, oa, ob, oc⟩) 41)).alloc (.cells (portA Port.zero none 0) 36)).heap.size = w.heap.size + 3 := by simp
  obtain ⟨W0, hW0⟩ : ∃ W0, W0 = (((w.alloc (.cells (portA p A c) 36)).alloc (.cells (orA ⟨8, oa, ob, oc⟩) 41)).alloc (.cells (portA Port.zero none 0) 36)) := ⟨_, rfl⟩
  rw [<- hW0] at hP0 hO0 hZ0 hB0 hs0
  rw [zeroA] at hW0
  simp only [portA, orA] at hW0
  have HW0 := hd_ hW0
  clear hW0
  go_upto_region 2 with (fail)
  rw [<- HW0.out]
  clear HW0
  go_wp2_with (refine wLP rfl rfl (by first | rfl | simp [aE, aP]) hP0 ?_)
  refine (isPort_any p A c _ HP.out HCAP.out (Sl.below hin hB0)).mono ?_
  rintro e w1 ⟨rfl, hb1⟩
  rw [HG.out]
  have hP1 := hP0.below hb1 (by rw [hs0]; omega)
  have hZ1 := hZ0.below hb1 (by rw [hs0]; omega)
  have hO1 := (hb1.block (w.heap.size + 1) (by rw [hs0]; omega)).trans hO0
  have hB1 := bG_ hB0 hb1
  have hs1 := hb1.size
  rw [hs0] at hs1
  clear hP0 hZ0 hB0 hO0 hb1 hs0 HP HG
  go_upto_region 6 with (first
    | (refine wLP rfl rfl (by first | rfl | simp [aE, aP]) hP1 ?_)
    | (go_at_call 44; refine (copyP_any p A c _ (Sl.below hin hB1) (by unfold maxLen; omega) (by omega)).mono ?_; rintro e w2 ⟨A2, c2, rfl, ho2, hb2⟩; have hZ8 := PortAt.new w2 Port.zero none 0)
    | (refine wSP rfl rfl (by first | rfl | simp [aE, aP]) (by first | rfl | simp [aE, aP]) hZ8 ?_; intro W hQ hr8))
  have hb8 : Below w2.heap.size w2 W := ((Below.refl _ _).alloc (Nat.le_refl _) _).trans (hr8.below (Nat.le_refl _))
  have hs2 := hb2.size
  have hb3 := bG_ hb2 hb8
  have hP := hP1.below hb3 (by omega)
  have hZ := hZ1.below hb3 (by omega)
  have hO := (hb3.block (w.heap.size + 1) (by omega)).trans hO1
  have hB := bG_ hB1 hb3
  have hown : OwnK W (w.heap.size + 3) (.slice A2 p.ships.length c2) p.ships := own_weak (oBl ho2 hb8) hs1
  have hog : (Value.slice A2 p.ships.length c2).ownBlock ≠ some w2.heap.size := fun e => by
    rcases ho2.2 with ⟨hv, _⟩ | ⟨gg, cap, cur, hv, _, hh, _⟩
    · rw [hv] at e; cases e
    · rw [hv] at e; simp only [Value.ownBlock, Option.some.injEq] at e
      have := (Array.getElem?_eq_some_iff.1 hh).1
      omega
  have hg8 : w.heap.size + 3 <= w2.heap.size := by omega
  obtain ⟨g8, hg8e⟩ : ∃ g8, w2.heap.size = g8 := ⟨_, rfl⟩
  rw [hg8e] at hQ hog hg8
  rw [hg8e]
  clear hP1 hZ1 hO1 hB1 hb2 hb8 hb3 hr8 hZ8 ho2 hs1 hs2 hg8e hin
  have hoc : ∀ i, i < 4 -> W.cell? ⟨w.heap.size + 1, i, none⟩ = (orA ⟨8, oa, ob, oc⟩)[i]? := fun i hi => cell_of_row _ _ i _ _ _ hO
  have o0 := hoc 0 (by omega)
  have o1 := hoc 1 (by omega)
  have o2 := hoc 2 (by omega)
  have o3 := hoc 3 (by omega)
  simp only [orA] at o0 o1 o2 o3
  clear hoc
  cases h1 : inB oa 0 16 with
  | false =>
    have HR := hd_ (tellL_err (e := 2) (show tell1 p ⟨8, oa, ob, oc⟩ = (p, 0, 2) by rw [HT.out, if_neg ((inB_no _ _ _).1 h1)]) (by decide))
    have H1 := hd_ (iBW h1)
    clear h1 HT
    go_wp2_with (first
      | (go_at_call 41; (with_reducible refine (wI_ _ H1.out).mono ?_); rintro e w' ⟨rfl, hw'⟩; obtain rfl := hw'.symm)
      | (go_at_call 70; refine (noP_any p A c w.heap.size 2 _ hP).mono ?_; rintro e w5 ⟨rfl, hb5⟩; have hZ5 := hZ.below hb5 hZ.lt)
      | (refine wSP rfl rfl (by first | rfl | simp [aE, aP]) (by first | rfl | simp [aE, aP]) hZ5 ?_; intro w7 hZ7 hr7))
    refine bodyPost_ret (rP3 rfl _ _ (w.heap.size + 2) rfl hZ7) rfl ?_
    have hB7 := (bG_ hB hb5).trans (hr7.below (n := w.heap.size) (by omega))
    rw [HR.out]
    exact ⟨A, c, rfl, Sl.below HIN.out hB7, HCAP.out, hB7, fun h => by cases h⟩
  | true =>
    have HT1 := hd_ (show tell1 p ⟨8, oa, ob, oc⟩ = ({ p with shut := oa }, 0, 0) by rw [HT.out, if_pos ((inB_iff _ _ _).1 h1)])
    have H1 := hd_ (iBW h1)
    clear h1 HT
    have y14 := hQ.shut
    have f14 := hQ.frozen 14
    go_upto_region 52 with ((go_at_call 41; (with_reducible refine (wI_ _ H1.out).mono ?_); rintro e w' ⟨rfl, hw'⟩; obtain rfl := hw'.symm))
    have hQX := hQ.put 14 (.int .i64 oa) { p with shut := oa } A2 c2 rfl
    have hownX := own_cell hown hog 14 (.int .i64 oa)
    have hPX := hP.beside ⟨g8, 14, none⟩ (.int .i64 oa) (by simp; omega)
    have hZX := hZ.beside ⟨g8, 14, none⟩ (.int .i64 oa) (by simp; omega)
    have hBX := hB.setCell (p := ⟨g8, 14, none⟩) (by simp; omega) (.int .i64 oa)
    obtain ⟨X, hX⟩ : ∃ X, X = W.setCell ⟨g8, 14, none⟩ (.int .i64 oa) := ⟨_, rfl⟩
    rw [<- hX] at hQX hownX hPX hZX hBX
    rw [<- hX]
    clear hX
    obtain ⟨Q5, hq5⟩ : ∃ Q5, ({ p with shut := oa } : Port) = Q5 := ⟨_, rfl⟩
    rw [hq5] at HT1 hQX
    have hownQ : OwnK X (w.heap.size + 3) (.slice A2 Q5.ships.length c2) Q5.ships := by rw [<- hq5]; exact hownX
    clear hq5 hQ hown hP hZ hB hownX hO o0 o1 o2 o3 y14 f14
    have hQ := hQX
    have hown := hownQ
    have hP := hPX
    have hZ := hZX
    have hB := hBX
    clear hQX hownQ hPX hZX hBX
    have HFQ := hd_ (tell1_fair2 HFR.out HT1.out)
    cases hbq : (baseL Q5).2 with
    | true =>
      have HE := hd_ (tellL_ok HT1.out hbq)
      have HB := hd_ hbq
      clear hbq
      go_wp2_with (first
        | (refine wLP rfl rfl ?hx hQ ?_; (case hx => first | rfl | (simp [aE, aP]; done)))
        | (go_at_call 47; refine (baseOf_any Q5 A2 c2 _ HFQ.out (Sl.of_own hown)).mono ?_; rintro e w5 ⟨fs, hfl, _, rfl, hb5⟩; rw [HB.out]; have hQ5 := hQ.below hb5 hQ.lt; have hZ5 := hZ.below hb5 hZ.lt; have hB5 := bG_ hB hb5; have hown5 := oBl hown hb5; clear hb5)
        | (refine wAA rfl rfl ?_; intro w6 gB b1 b2 hA6 hb6; have hQ6 := hQ5.below hb6 hQ5.lt; have hZ6 := hZ5.below hb6 hZ5.lt; have hB6 := bG_ hB5 hb6; have hown6 := oBl hown5 hb6)
        | (refine wSA rfl rfl (by first | rfl | simp [aE, aP]) (by first | rfl | simp [aE, aP]) hA6 hfl ?_; intro w7 hA7 hr7; have hQ7 := hQ6.one hr7 (by have := hQ5.lt; omega); have hZ7 := hZ6.one hr7 (by have := hZ5.lt; omega); have hB7 := hB6.trans (hr7.below (n := w.heap.size) (by have := hB5.size; omega)); have hown7 := own_one' hown6 hr7 (fun e => by have := oBk hown5 _ e; have h2 := World.ownsRow.lt hown5 _ e; omega))
        | (refine wLP rfl rfl ?hx hQ7 ?_; (case hx => first | rfl | (simp [aE, aP]; done)))
        | (refine wSP rfl rfl (by first | rfl | simp [aE, aP]) (by first | rfl | simp [aE, aP]) hZ7 ?_; intro w8 hZ8 hr8))
      refine bodyPost_ret (rP3 rfl _ _ (w.heap.size + 2) rfl hZ8) rfl ?_
      rw [HE.out]
      have hown8 := own_one hown7 hr8 (by omega)
      exact ⟨A2, c2, rfl, Sl.of_own hown8, ownK_cap hown8, hB7.trans (hr8.below (n := w.heap.size) (by omega)), fun _ => (ownK_fr hown8).mono (by omega)⟩
    | false =>
      have HR := hd_ (tellL_no6 HT1.out hbq)
      have HB := hd_ hbq
      clear hbq
      go_wp2_with (first
        | (refine wLP rfl rfl ?hx hQ ?_; (case hx => first | rfl | (simp [aE, aP]; done)))
        | (go_at_call 47; refine (baseOf_any Q5 A2 c2 _ HFQ.out (Sl.of_own hown)).mono ?_; rintro e w5 ⟨fs, hfl, _, rfl, hb5⟩; rw [HB.out]; have hP5 := hP.below hb5 hP.lt; have hZ5 := hZ.below hb5 hZ.lt; have hB5 := bG_ hB hb5; clear hb5)
        | (refine wAA rfl rfl ?_; intro w6 gB b1 b2 hA6 hb6; have hP6 := hP5.below hb6 hP5.lt; have hZ6 := hZ5.below hb6 hZ5.lt; have hB6 := bG_ hB5 hb6)
        | (refine wSA rfl rfl (by first | rfl | simp [aE, aP]) (by first | rfl | simp [aE, aP]) hA6 hfl ?_; intro w7 hA7 hr7; have hP7 := hP6.one hr7 (by have := hP5.lt; omega); have hZ7 := hZ6.one hr7 (by have := hZ5.lt; omega); have hB7 := hB6.trans (hr7.below (n := w.heap.size) (by have := hB5.size; omega)))
        | (go_at_call 70; refine (noP_any p A c w.heap.size 6 _ hP7).mono ?_; rintro e w8 ⟨rfl, hb8⟩; have hZ8 := hZ7.below hb8 hZ7.lt)
        | (refine wSP rfl rfl (by first | rfl | simp [aE, aP]) (by first | rfl | simp [aE, aP]) hZ8 ?_; intro w9 hZ9 hr9))
      refine bodyPost_ret (rP3 rfl _ _ (w.heap.size + 2) rfl hZ9) rfl ?_
      have hB9 := (bG_ hB7 hb8).trans (hr9.below (n := w.heap.size) (by omega))
      rw [HR.out]
      exact ⟨A, c, rfl, Sl.below HIN.out hB9, HCAP.out, hB9, fun h => by cases h⟩
set_option maxRecDepth 100000 in
theorem refTell_form (p : Port) (A : Option Addr) (c : Nat) (kd oa ob oc : Int) (w : World) (hg : PGood p) (hcap : p.ships.length <= c) (hin : InP w p A) (hkd : ∀ k : Int, 1 <= k -> k <= 8 -> kd ≠ k) :
    Calls Tryz.prog 45 #[.agg (portA p A c), .agg (orA ⟨kd, oa, ob, oc⟩)] w (RetTellC (tellL p ⟨kd, oa, ob, oc⟩) w) := by
  have HR := hd_ (tellL_err (e := 1) (show tell1 p ⟨kd, oa, ob, oc⟩ = (p, 0, 1) by
    unfold tell1
    dsimp only
    rw [if_neg (hkd 1 (by omega) (by omega)), if_neg (hkd 2 (by omega) (by omega)), if_neg (hkd 3 (by omega) (by omega)), if_neg (hkd 4 (by omega) (by omega)), if_neg (hkd 5 (by omega) (by omega)), if_neg (hkd 6 (by omega) (by omega)), if_neg (hkd 7 (by omega) (by omega)), if_neg (hkd 8 (by omega) (by omega))]) (by decide))
  have d1 : (kd == 1) = false := by simpa using hkd 1 (by omega) (by omega)
  have d2 : (kd == 2) = false := by simpa using hkd 2 (by omega) (by omega)
  have d3 : (kd == 3) = false := by simpa using hkd 3 (by omega) (by omega)
  have d4 : (kd == 4) = false := by simpa using hkd 4 (by omega) (by omega)
  have d5 : (kd == 5) = false := by simpa using hkd 5 (by omega) (by omega)
  have d6 : (kd == 6) = false := by simpa using hkd 6 (by omega) (by omega)
  have d7 : (kd == 7) = false := by simpa using hkd 7 (by omega) (by omega)
  have d8 : (kd == 8) = false := by simpa using hkd 8 (by omega) (by omega)
  clear hkd
  have hlen := hg.len
  have H4 := hd_ hg.four
  have HFR := hd_ hg.toFair
  have HP := hd_ (fair_wf hg.toFair)
  have HG := hd_ ((goodP_iff hg.four).2 hg)
  have HIN := hd_ hin
  have HCAP := hd_ hcap
  clear hg hcap
  simp only [portA, orA]
  go_enter Tryz.func45, Tryz.ntmps45
  have hP0 : PortAt (((w.alloc (.cells (portA p A c) 36)).alloc (.cells (orA ⟨kd, oa, ob, oc⟩) 41)).alloc (.cells (portA Port.zero none 0) 36)) w.heap.size p A c := ((PortAt.new w p A c).alloc _).alloc _
  have hO0 : (((w.alloc (.cells (portA p A c) 36)).alloc (.cells (orA ⟨kd, oa, ob, oc⟩) 41)).alloc (.cells (portA Port.zero none 0) 36)).heap[w.heap.size + 1]? = some (.cells (orA ⟨kd, oa, ob, oc⟩) 41 (0, 0)) := by
    have h1 := heap_alloc_new (w.alloc (.cells (portA p A c) 36)) (.cells (orA ⟨kd, oa, ob, oc⟩) 41)
    have h2 := Below.heap_alloc ((w.alloc (.cells (portA p A c) 36)).alloc (.cells (orA ⟨kd, oa, ob, oc⟩) 41)) (.cells (portA Port.zero none 0) 36) (w.heap.size + 1) (by simp)
    rw [h2]; simpa using h1
  have hZ0 : PortAt (((w.alloc (.cells (portA p A c) 36)).alloc (.cells (orA ⟨kd, oa, ob, oc⟩) 41)).alloc (.cells (portA Port.zero none 0) 36)) (w.heap.size + 2) Port.zero none 0 := by
    have := PortAt.new ((w.alloc (.cells (portA p A c) 36)).alloc (.cells (orA ⟨kd, oa, ob, oc⟩) 41)) Port.zero none 0
    simpa using this
  have hB0 : Below w.heap.size w (((w.alloc (.cells (portA p A c) 36)).alloc (.cells (orA ⟨kd, oa, ob, oc⟩) 41)).alloc (.cells (portA Port.zero none 0) 36)) := (((Below.refl _ _).alloc (Nat.le_refl _) _).alloc (by simp) _).alloc (by simp; omega) _
  have hs0 : (((w.alloc (.cells (portA p A c) 36)).alloc (.cells (orA ⟨kd, oa, ob, oc⟩) 41)).alloc (.cells (portA Port.zero none 0) 36)).heap.size = w.heap.size + 3 := by simp
  obtain ⟨W0, hW0⟩ : ∃ W0, W0 = (((w.alloc (.cells (portA p A c) 36)).alloc (.cells (orA ⟨kd, oa, ob, oc⟩) 41)).alloc (.cells (portA Port.zero none 0) 36)) := ⟨_, rfl⟩
  rw [<- hW0] at hP0 hO0 hZ0 hB0 hs0
  rw [zeroA] at hW0
  simp only [portA, orA] at hW0
  have HW0 := hd_ hW0
  clear hW0
  go_upto_region 2 with (fail)
  rw [<- HW0.out]
  clear HW0
  go_wp2_with (refine wLP rfl rfl (by first | rfl | simp [aE, aP]) hP0 ?_)
  refine (isPort_any p A c _ HP.out HCAP.out (Sl.below hin hB0)).mono ?_
  rintro e w1 ⟨rfl, hb1⟩
  rw [HG.out]
  have hP1 := hP0.below hb1 (by rw [hs0]; omega)
  have hZ1 := hZ0.below hb1 (by rw [hs0]; omega)
  have hO1 := (hb1.block (w.heap.size + 1) (by rw [hs0]; omega)).trans hO0
  have hB1 := bG_ hB0 hb1
  have hs1 := hb1.size
  rw [hs0] at hs1
  clear hP0 hZ0 hB0 hO0 hb1 hs0 HP HG
  go_upto_region 6 with (first
    | (refine wLP rfl rfl (by first | rfl | simp [aE, aP]) hP1 ?_)
    | (go_at_call 44; refine (copyP_any p A c _ (Sl.below hin hB1) (by unfold maxLen; omega) (by omega)).mono ?_; rintro e w2 ⟨A2, c2, rfl, ho2, hb2⟩; have hZ8 := PortAt.new w2 Port.zero none 0)
    | (refine wSP rfl rfl (by first | rfl | simp [aE, aP]) (by first | rfl | simp [aE, aP]) hZ8 ?_; intro W hQ hr8))
  have hb8 : Below w2.heap.size w2 W := ((Below.refl _ _).alloc (Nat.le_refl _) _).trans (hr8.below (Nat.le_refl _))
  have hs2 := hb2.size
  have hb3 := bG_ hb2 hb8
  have hP := hP1.below hb3 (by omega)
  have hZ := hZ1.below hb3 (by omega)
  have hO := (hb3.block (w.heap.size + 1) (by omega)).trans hO1
  have hB := bG_ hB1 hb3
  have hown : OwnK W (w.heap.size + 3) (.slice A2 p.ships.length c2) p.ships := own_weak (oBl ho2 hb8) hs1
  have hog : (Value.slice A2 p.ships.length c2).ownBlock ≠ some w2.heap.size := fun e => by
    rcases ho2.2 with ⟨hv, _⟩ | ⟨gg, cap, cur, hv, _, hh, _⟩
    · rw [hv] at e; cases e
    · rw [hv] at e; simp only [Value.ownBlock, Option.some.injEq] at e
      have := (Array.getElem?_eq_some_iff.1 hh).1
      omega
  have hg8 : w.heap.size + 3 <= w2.heap.size := by omega
  obtain ⟨g8, hg8e⟩ : ∃ g8, w2.heap.size = g8 := ⟨_, rfl⟩
  rw [hg8e] at hQ hog hg8
  rw [hg8e]
  clear hP1 hZ1 hO1 hB1 hb2 hb8 hb3 hr8 hZ8 ho2 hs1 hs2 hg8e hin
  have hoc : ∀ i, i < 4 -> W.cell? ⟨w.heap.size + 1, i, none⟩ = (orA ⟨kd, oa, ob, oc⟩)[i]? := fun i hi => cell_of_row _ _ i _ _ _ hO
  have o0 := hoc 0 (by omega)
  have o1 := hoc 1 (by omega)
  have o2 := hoc 2 (by omega)
  have o3 := hoc 3 (by omega)
  simp only [orA] at o0 o1 o2 o3
  clear hoc
  go_wp2_with (first
    | (go_at_call 70; refine (noP_any p A c w.heap.size 1 _ hP).mono ?_; rintro e w5 ⟨rfl, hb5⟩; have hZ5 := hZ.below hb5 hZ.lt)
    | (refine wSP rfl rfl (by first | rfl | simp [aE, aP]) (by first | rfl | simp [aE, aP]) hZ5 ?_; intro w7 hZ7 hr7))
  refine bodyPost_ret (rP3 rfl _ _ (w.heap.size + 2) rfl hZ7) rfl ?_
  have hB7 := (bG_ hB hb5).trans (hr7.below (n := w.heap.size) (by omega))
  rw [HR.out]
  exact ⟨A, c, rfl, Sl.below HIN.out hB7, HCAP.out, hB7, fun h => by cases h⟩
theorem refTell_any (p : Port) (A : Option Addr) (c : Nat) (o : Order) (w : World) (hg : PGood p) (hcap : p.ships.length <= c) (hin : InP w p A) :
    Calls Tryz.prog 45 #[.agg (portA p A c), .agg (orA o)] w (RetTellC (tellL p o) w) := by
  obtain ⟨kd, oa, ob, oc⟩ := o
  by_cases h1 : kd = 1
  · subst h1; exact refTell_come p A c oa ob oc w hg hcap hin
  by_cases h2 : kd = 2
  · subst h2; exact refTell_leave p A c oa ob oc w hg hcap hin
  by_cases h3 : kd = 3
  · subst h3; exact refTell_hold p A c oa ob oc w hg hcap hin
  by_cases h4 : kd = 4
  · subst h4; exact refTell_free p A c oa ob oc w hg hcap hin
  by_cases h5 : kd = 5
  · subst h5; exact refTell_change p A c oa ob oc w hg hcap hin
  by_cases h6 : kd = 6
  · subst h6; exact refTell_keep p A c oa ob oc w hg hcap hin
  by_cases h7 : kd = 7
  · subst h7; exact refTell_drop p A c oa ob oc w hg hcap hin
  by_cases h8 : kd = 8
  · subst h8; exact refTell_shut p A c oa ob oc w hg hcap hin
  refine refTell_form p A c kd oa ob oc w hg hcap hin fun k k1 k2 e => ?_
  rcases (by omega : k = 1 \/ k = 2 \/ k = 3 \/ k = 4 \/ k = 5 \/ k = 6 \/ k = 7 \/ k = 8) with rfl | rfl | rfl | rfl | rfl | rfl | rfl | rfl
  · exact h1 e
  · exact h2 e
  · exact h3 e
  · exact h4 e
  · exact h5 e
  · exact h6 e
  · exact h7 e
  · exact h8 e
end Go.Proofs.YtifmdkcpbajdcabGreatDoor

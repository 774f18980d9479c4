/- Walks: the document's answer to orders that keep room, drop what is kept, shut berths, or are no orders. -/
import Derived.Test.YtifmdkcpbajdcabGreatDoorTurnQ
import Derived.Test.YtifmdkcpbajdcabGreatDoorTellV
set_option linter.unusedVariables false
set_option linter.unusedSimpArgs false
namespace Go.Proofs.YtifmdkcpbajdcabGreatDoor
open Go.RowKit Go.Proofs Plain
open Go.Act renaming put -> aP, eval -> aE
open Go.Lib renaming hid -> hd_
set_option maxRecDepth 100000 in
set_option maxHeartbeats 16000000 in
theorem refTell_keep (p : Port) (A : Option Addr) (c : Nat) (oa ob oc : Int) (w : World) (hg : PGood p) (hcap : p.ships.length <= c) (hin : InP w p A) :
    Calls Tryz.prog 45 #[.agg (portA p A c), .agg (orA ⟨6, oa, ob, oc⟩)] w (RetTellC (tellL p ⟨6, oa, ob, oc⟩) w) := by
  have HT := hd_ (show tell1 p ⟨6, oa, ob, oc⟩ = if (1 <= oa /\ oa <= 16) /\ p.now <= ob /\ ob < oc /\ oc <= 300 then keepR p (freeKeep p) ⟨oa, ob, oc⟩ else (p, 0, 2) from rfl)
  have hno := hg.now
  have hlen := hg.len
  have H4 := hd_ hg.four
  have HFR := hd_ hg.toFair
  have HP := hd_ (fair_wf hg.toFair)
  have HG := hd_ ((goodP_iff hg.four).2 hg)
  have HIN := hd_ hin
  have HCAP := hd_ hcap
  clear hg hcap
  simp only [portA, orA]
  go_enter Tryz.func45, Tryz.ntmps45
  have hP0 : PortAt (((w.alloc (.cells (portA p A c) 36)).alloc (.cells (orA ⟨6, oa, ob, oc⟩) 41)).alloc (.cells (portA Port.zero none 0) 36)) w.heap.size p A c := ((PortAt.new w p A c).alloc _).alloc _
  have hO0 : (((w.alloc (.cells (portA p A c) 36)).alloc (.cells (orA ⟨6, oa, ob, oc⟩) 41)).alloc (.cells (portA Port.zero none 0) 36)).heap[w.heap.size + 1]? = some (.cells (orA ⟨6, oa, ob, oc⟩) 41 (0, 0)) := by
    have h1 := heap_alloc_new (w.alloc (.cells (portA p A c) 36)) (.cells (orA ⟨6, oa, ob, oc⟩) 41)
    have h2 := Below.heap_alloc ((w.alloc (.cells (portA p A c) 36)).alloc (.cells (orA ⟨6, oa, ob, oc⟩) 41)) (.cells (portA Port.zero none 0) 36) (w.heap.size + 1) (by simp)
    rw [h2]; simpa using h1
  have hZ0 : PortAt (((w.alloc (.cells (portA p A c) 36)).alloc (.cells (orA ⟨6, oa, ob, oc⟩) 41)).alloc (.cells (portA Port.zero none 0) 36)) (w.heap.size + 2) Port.zero none 0 := by
    have := PortAt.new ((w.alloc (.cells (portA p A c) 36)).alloc (.cells (orA ⟨6, oa, ob, oc⟩) 41)) Port.zero none 0
    simpa using this
  have hB0 : Below w.heap.size w (((w.alloc (.cells (portA p A c) 36)).alloc (.cells (orA ⟨6, oa, ob, oc⟩) 41)).alloc (.cells (portA Port.zero none 0) 36)) := (((Below.refl _ _).alloc (Nat.le_refl _) _).alloc (by simp) _).alloc (by simp; omega) _
  have hs0 : (((w.alloc (.cells (portA p A c) 36)).alloc (.cells (orA ⟨6, oa, ob, oc⟩) 41)).alloc (.cells (portA Port.zero none 0) 36)).heap.size = w.heap.size + 3 := by simp
  obtain ⟨W0, hW0⟩ : ∃ W0, W0 = (((w.alloc (.cells (portA p A c) 36)).alloc (.cells (orA ⟨6, oa, ob, oc⟩) 41)).alloc (.cells (portA Port.zero none 0) 36)) := ⟨_, rfl⟩
  rw [<- hW0] at hP0 hO0 hZ0 hB0 hs0
  rw [zeroA] at hW0
  simp only [portA, orA] at hW0
  have HW0 := hd_ hW0
  clear hW0
  go_upto_region 2 with (fail)
  rw [<- HW0.out]
  clear HW0
  go_wp2_with (refine wLP rfl rfl (by first | rfl | simp [aE, aP]) hP0 ?_)
  refine (isPort_any p A c _ HP.out HCAP.out (Sl.below hin hB0)).mono ?_
  rintro e w1 ⟨rfl, hb1⟩
  rw [HG.out]
  have hP1 := hP0.below hb1 (by rw [hs0]; omega)
  have hZ1 := hZ0.below hb1 (by rw [hs0]; omega)
  have hO1 := (hb1.block (w.heap.size + 1) (by rw [hs0]; omega)).trans hO0
  have hB1 := bG_ hB0 hb1
  have hs1 := hb1.size
  rw [hs0] at hs1
  clear hP0 hZ0 hB0 hO0 hb1 hs0 HP HG
  go_upto_region 6 with (first
    | (refine wLP rfl rfl (by first | rfl | simp [aE, aP]) hP1 ?_)
    | (go_at_call 44; refine (copyP_any p A c _ (Sl.below hin hB1) (by unfold maxLen; omega) (by omega)).mono ?_; rintro e w2 ⟨A2, c2, rfl, ho2, hb2⟩; have hZ8 := PortAt.new w2 Port.zero none 0)
    | (refine wSP rfl rfl (by first | rfl | simp [aE, aP]) (by first | rfl | simp [aE, aP]) hZ8 ?_; intro W hQ hr8))
  have hb8 : Below w2.heap.size w2 W := ((Below.refl _ _).alloc (Nat.le_refl _) _).trans (hr8.below (Nat.le_refl _))
  have hs2 := hb2.size
  have hb3 := bG_ hb2 hb8
  have hP := hP1.below hb3 (by omega)
  have hZ := hZ1.below hb3 (by omega)
  have hO := (hb3.block (w.heap.size + 1) (by omega)).trans hO1
  have hB := bG_ hB1 hb3
  have hown : OwnK W (w.heap.size + 3) (.slice A2 p.ships.length c2) p.ships := own_weak (oBl ho2 hb8) hs1
  have hog : (Value.slice A2 p.ships.length c2).ownBlock ≠ some w2.heap.size := fun e => by
    rcases ho2.2 with ⟨hv, _⟩ | ⟨gg, cap, cur, hv, _, hh, _⟩
    · rw [hv] at e; cases e
    · rw [hv] at e; simp only [Value.ownBlock, Option.some.injEq] at e
      have := (Array.getElem?_eq_some_iff.1 hh).1
      omega
  have hg8 : w.heap.size + 3 <= w2.heap.size := by omega
  obtain ⟨g8, hg8e⟩ : ∃ g8, w2.heap.size = g8 := ⟨_, rfl⟩
  rw [hg8e] at hQ hog hg8
  rw [hg8e]
  clear hP1 hZ1 hO1 hB1 hb2 hb8 hb3 hr8 hZ8 ho2 hs1 hs2 hg8e hin
  have hoc : ∀ i, i < 4 -> W.cell? ⟨w.heap.size + 1, i, none⟩ = (orA ⟨6, oa, ob, oc⟩)[i]? := fun i hi => cell_of_row _ _ i _ _ _ hO
  have o0 := hoc 0 (by omega)
  have o1 := hoc 1 (by omega)
  have o2 := hoc 2 (by omega)
  have o3 := hoc 3 (by omega)
  simp only [orA] at o0 o1 o2 o3
  clear hoc
  have q0 := hP.now
  cases h1 : inB oa 1 16 with
  | false =>
    have HR := hd_ (tellL_err (e := 2) (show tell1 p ⟨6, oa, ob, oc⟩ = (p, 0, 2) by rw [HT.out, if_neg (fun h => (inB_no _ _ _).1 h1 h.1)]) (by decide))
    have H1 := hd_ (iBW h1)
    clear h1 HT
    go_wp2_with (first
      | (go_at_call 41; (with_reducible refine (wI_ _ H1.out).mono ?_); rintro e w' ⟨rfl, hw'⟩; obtain rfl := hw'.symm)
      | (go_at_call 70; refine (noP_any p A c w.heap.size 2 _ hP).mono ?_; rintro e w5 ⟨rfl, hb5⟩; have hZ5 := hZ.below hb5 hZ.lt)
      | (refine wSP rfl rfl (by first | rfl | simp [aE, aP]) (by first | rfl | simp [aE, aP]) hZ5 ?_; intro w7 hZ7 hr7))
    refine bodyPost_ret (rP3 rfl _ _ (w.heap.size + 2) rfl hZ7) rfl ?_
    have hB7 := (bG_ hB hb5).trans (hr7.below (n := w.heap.size) (by omega))
    rw [HR.out]
    exact ⟨A, c, rfl, Sl.below HIN.out hB7, HCAP.out, hB7, fun h => by cases h⟩
  | true =>
    have h1' := (inB_iff _ _ _).1 h1
    have H1 := hd_ (iBW h1)
    clear h1
    cases h2 : inB ob p.now 300 with
    | false =>
      have HR := hd_ (tellL_err (e := 2) (show tell1 p ⟨6, oa, ob, oc⟩ = (p, 0, 2) by rw [HT.out, if_neg (fun h => (inB_no _ _ _).1 h2 ⟨h.2.1, by omega⟩)]) (by decide))
      have H2 := hd_ (iBW h2)
      clear h2 HT
      go_wp2_with (first
        | (go_at_call 41; (with_reducible refine (wI_ _ H1.out).mono ?_); rintro e w' ⟨rfl, hw'⟩; obtain rfl := hw'.symm)
        | (go_at_call 41; (with_reducible refine (wI_ _ H2.out).mono ?_); rintro e w' ⟨rfl, hw'⟩; obtain rfl := hw'.symm)
        | (go_at_call 70; refine (noP_any p A c w.heap.size 2 _ hP).mono ?_; rintro e w5 ⟨rfl, hb5⟩; have hZ5 := hZ.below hb5 hZ.lt)
        | (refine wSP rfl rfl (by first | rfl | simp [aE, aP]) (by first | rfl | simp [aE, aP]) hZ5 ?_; intro w7 hZ7 hr7))
      refine bodyPost_ret (rP3 rfl _ _ (w.heap.size + 2) rfl hZ7) rfl ?_
      have hB7 := (bG_ hB hb5).trans (hr7.below (n := w.heap.size) (by omega))
      rw [HR.out]
      exact ⟨A, c, rfl, Sl.below HIN.out hB7, HCAP.out, hB7, fun h => by cases h⟩
    | true =>
      have h2' := (inB_iff _ _ _).1 h2
      have H2 := hd_ (iBW h2)
      clear h2
      by_cases h3 : oc <= ob
      · have d3 : decide (ob >= oc) = true := by simpa using h3
        have HR := hd_ (tellL_err (e := 2) (show tell1 p ⟨6, oa, ob, oc⟩ = (p, 0, 2) by rw [HT.out, if_neg (by omega)]) (by decide))
        clear HT
        go_wp2_with (first
          | (go_at_call 41; (with_reducible refine (wI_ _ H1.out).mono ?_); rintro e w' ⟨rfl, hw'⟩; obtain rfl := hw'.symm)
          | (go_at_call 41; (with_reducible refine (wI_ _ H2.out).mono ?_); rintro e w' ⟨rfl, hw'⟩; obtain rfl := hw'.symm)
          | (go_at_call 70; refine (noP_any p A c w.heap.size 2 _ hP).mono ?_; rintro e w5 ⟨rfl, hb5⟩; have hZ5 := hZ.below hb5 hZ.lt)
          | (refine wSP rfl rfl (by first | rfl | simp [aE, aP]) (by first | rfl | simp [aE, aP]) hZ5 ?_; intro w7 hZ7 hr7))
        refine bodyPost_ret (rP3 rfl _ _ (w.heap.size + 2) rfl hZ7) rfl ?_
        have hB7 := (bG_ hB hb5).trans (hr7.below (n := w.heap.size) (by omega))
        rw [HR.out]
        exact ⟨A, c, rfl, Sl.below HIN.out hB7, HCAP.out, hB7, fun h => by cases h⟩
      · have d3 : decide (ob >= oc) = false := by simpa using h3
        by_cases h4 : 300 < oc
        · have d4 : decide (oc > 300) = true := by simpa using h4
          have HR := hd_ (tellL_err (e := 2) (show tell1 p ⟨6, oa, ob, oc⟩ = (p, 0, 2) by rw [HT.out, if_neg (by omega)]) (by decide))
          clear HT
          go_wp2_with (first
            | (go_at_call 41; (with_reducible refine (wI_ _ H1.out).mono ?_); rintro e w' ⟨rfl, hw'⟩; obtain rfl := hw'.symm)
            | (go_at_call 41; (with_reducible refine (wI_ _ H2.out).mono ?_); rintro e w' ⟨rfl, hw'⟩; obtain rfl := hw'.symm)
            | (go_at_call 70; refine (noP_any p A c w.heap.size 2 _ hP).mono ?_; rintro e w5 ⟨rfl, hb5⟩; have hZ5 := hZ.below hb5 hZ.lt)
            | (refine wSP rfl rfl (by first | rfl | simp [aE, aP]) (by first | rfl | simp [aE, aP]) hZ5 ?_; intro w7 hZ7 hr7))
          refine bodyPost_ret (rP3 rfl _ _ (w.heap.size + 2) rfl hZ7) rfl ?_
          have hB7 := (bG_ hB hb5).trans (hr7.below (n := w.heap.size) (by omega))
          rw [HR.out]
          exact ⟨A, c, rfl, Sl.below HIN.out hB7, HCAP.out, hB7, fun h => by cases h⟩
        · have d4 : decide (oc > 300) = false := by simpa using h4
          have HR0 := hd_ (show tell1 p ⟨6, oa, ob, oc⟩ = keepR p (freeKeep p) ⟨oa, ob, oc⟩ by rw [HT.out, if_pos (by omega)])
          clear HT
          go_upto_region 39 with (first
            | (go_at_call 41; (with_reducible refine (wI_ _ H1.out).mono ?_); rintro e w' ⟨rfl, hw'⟩; obtain rfl := hw'.symm)
            | (go_at_call 41; (with_reducible refine (wI_ _ H2.out).mono ?_); rintro e w' ⟨rfl, hw'⟩; obtain rfl := hw'.symm)
            | fail)
          go_loopw [9] (fun v wr => ∃ k : Nat, k <= 4 /\ v = .int .i64 k /\ W = wr /\ ∀ j, j < k -> (p.keep j).wide ≠ 0) (fun v _ => 4 - (intOf v).toNat)
          case atStart => exact ⟨0, by omega, rfl, rfl, fun j hj => absurd hj (by omega)⟩
          case round =>
            obtain ⟨k, hk4, rfl, rfl, hall⟩ := hrel
            have HAL := hd_ hall
            clear hall
            by_cases hk : k < 4
            · obtain ⟨k1, k2, k3⟩ := hP.kept hk
              by_cases h0 : (p.keep k).wide = 0
              · have HT1 := hd_ (show tell1 p ⟨6, oa, ob, oc⟩ = (p.setKeep k ⟨oa, ob, oc⟩, (k : Int), 0) by rw [HR0.out, freeKeep_some hk h0 HAL.out]; rfl)
                obtain ⟨y1, y2, y3⟩ := hQ.kept hk
                have f1 := hQ.frozen (2 + k * 3)
                have f2 := hQ.frozen (2 + k * 3 + 1)
                have f3 := hQ.frozen (2 + k * 3 + 2)
                have m4 : ((k : Int) == 4) = false := by simp; omega
                rw [h0] at k1 y1
                clear HR0 HAL h0
                go_upto_region 52 with (fail)
                have hQX := PortAt.put3 (x := ⟨oa, ob, oc⟩) hQ H4.out hk
                have hownX := own_cell (own_cell (own_cell hown hog (2 + k * 3) (.int .i64 oa)) hog (2 + k * 3 + 1) (.int .i64 ob)) hog (2 + k * 3 + 2) (.int .i64 oc)
                have hPX := ((hP.beside ⟨g8, 2 + k * 3, none⟩ (.int .i64 oa) (by simp; omega)).beside ⟨g8, 2 + k * 3 + 1, none⟩ (.int .i64 ob) (by simp; omega)).beside ⟨g8, 2 + k * 3 + 2, none⟩ (.int .i64 oc) (by simp; omega)
                have hZX := ((hZ.beside ⟨g8, 2 + k * 3, none⟩ (.int .i64 oa) (by simp; omega)).beside ⟨g8, 2 + k * 3 + 1, none⟩ (.int .i64 ob) (by simp; omega)).beside ⟨g8, 2 + k * 3 + 2, none⟩ (.int .i64 oc) (by simp; omega)
                have hBX := ((hB.setCell (p := ⟨g8, 2 + k * 3, none⟩) (by simp; omega) (.int .i64 oa)).setCell (p := ⟨g8, 2 + k * 3 + 1, none⟩) (by simp; omega) (.int .i64 ob)).setCell (p := ⟨g8, 2 + k * 3 + 2, none⟩) (by simp; omega) (.int .i64 oc)
                dsimp only at hQX
                obtain ⟨X, hX⟩ : ∃ X, X = (((W.setCell ⟨g8, 2 + k * 3, none⟩ (.int .i64 oa)).setCell ⟨g8, 2 + k * 3 + 1, none⟩ (.int .i64 ob)).setCell ⟨g8, 2 + k * 3 + 2, none⟩ (.int .i64 oc)) := ⟨_, rfl⟩
                rw [<- hX] at hQX hownX hPX hZX hBX
                rw [<- hX]
                clear hX
                obtain ⟨Q5, hq5⟩ : ∃ Q5, p.setKeep k ⟨oa, ob, oc⟩ = Q5 := ⟨_, rfl⟩
                rw [hq5] at HT1 hQX
                have hownQ : OwnK X (w.heap.size + 3) (.slice A2 Q5.ships.length c2) Q5.ships := by rw [<- hq5]; exact hownX
                clear hq5 hQ hown hP hZ hB hownX hO o0 o1 o2 o3 y1 y2 y3 f1 f2 f3 k1 k2 k3 q0 m4
                have hQ := hQX
                have hown := hownQ
                have hP := hPX
                have hZ := hZX
                have hB := hBX
                clear hQX hownQ hPX hZX hBX
                have HFQ := hd_ (tell1_fair2 HFR.out HT1.out)
                cases hbq : (baseL Q5).2 with
                | true =>
                  have HE := hd_ (tellL_ok HT1.out hbq)
                  have HB := hd_ hbq
                  clear hbq
                  go_wp2_with (first
                    | (refine wLP rfl rfl ?hx hQ ?_; (case hx => first | rfl | (simp [aE, aP]; done)))
                    | (go_at_call 47; refine (baseOf_any Q5 A2 c2 _ HFQ.out (Sl.of_own hown)).mono ?_; rintro e w5 ⟨fs, hfl, _, rfl, hb5⟩; rw [HB.out]; have hQ5 := hQ.below hb5 hQ.lt; have hZ5 := hZ.below hb5 hZ.lt; have hB5 := bG_ hB hb5; have hown5 := oBl hown hb5; clear hb5)
                    | (refine wAA rfl rfl ?_; intro w6 gB b1 b2 hA6 hb6; have hQ6 := hQ5.below hb6 hQ5.lt; have hZ6 := hZ5.below hb6 hZ5.lt; have hB6 := bG_ hB5 hb6; have hown6 := oBl hown5 hb6)
                    | (refine wSA rfl rfl (by first | rfl | simp [aE, aP]) (by first | rfl | simp [aE, aP]) hA6 hfl ?_; intro w7 hA7 hr7; have hQ7 := hQ6.one hr7 (by have := hQ5.lt; omega); have hZ7 := hZ6.one hr7 (by have := hZ5.lt; omega); have hB7 := hB6.trans (hr7.below (n := w.heap.size) (by have := hB5.size; omega)); have hown7 := own_one' hown6 hr7 (fun e => by have := oBk hown5 _ e; have h2 := World.ownsRow.lt hown5 _ e; omega))
                    | (refine wLP rfl rfl ?hx hQ7 ?_; (case hx => first | rfl | (simp [aE, aP]; done)))
                    | (refine wSP rfl rfl (by first | rfl | simp [aE, aP]) (by first | rfl | simp [aE, aP]) hZ7 ?_; intro w8 hZ8 hr8))
                  refine bodyPost_ret (rP3 rfl _ _ (w.heap.size + 2) rfl hZ8) rfl ?_
                  rw [HE.out]
                  have hown8 := own_one hown7 hr8 (by omega)
                  exact ⟨A2, c2, rfl, Sl.of_own hown8, ownK_cap hown8, hB7.trans (hr8.below (n := w.heap.size) (by omega)), fun _ => (ownK_fr hown8).mono (by omega)⟩
                | false =>
                  have HR := hd_ (tellL_no6 HT1.out hbq)
                  have HB := hd_ hbq
                  clear hbq
                  go_wp2_with (first
                    | (refine wLP rfl rfl ?hx hQ ?_; (case hx => first | rfl | (simp [aE, aP]; done)))
                    | (go_at_call 47; refine (baseOf_any Q5 A2 c2 _ HFQ.out (Sl.of_own hown)).mono ?_; rintro e w5 ⟨fs, hfl, _, rfl, hb5⟩; rw [HB.out]; have hP5 := hP.below hb5 hP.lt; have hZ5 := hZ.below hb5 hZ.lt; have hB5 := bG_ hB hb5; clear hb5)
                    | (refine wAA rfl rfl ?_; intro w6 gB b1 b2 hA6 hb6; have hP6 := hP5.below hb6 hP5.lt; have hZ6 := hZ5.below hb6 hZ5.lt; have hB6 := bG_ hB5 hb6)
                    | (refine wSA rfl rfl (by first | rfl | simp [aE, aP]) (by first | rfl | simp [aE, aP]) hA6 hfl ?_; intro w7 hA7 hr7; have hP7 := hP6.one hr7 (by have := hP5.lt; omega); have hZ7 := hZ6.one hr7 (by have := hZ5.lt; omega); have hB7 := hB6.trans (hr7.below (n := w.heap.size) (by have := hB5.size; omega)))
                    | (go_at_call 70; refine (noP_any p A c w.heap.size 6 _ hP7).mono ?_; rintro e w8 ⟨rfl, hb8⟩; have hZ8 := hZ7.below hb8 hZ7.lt)
                    | (refine wSP rfl rfl (by first | rfl | simp [aE, aP]) (by first | rfl | simp [aE, aP]) hZ8 ?_; intro w9 hZ9 hr9))
                  refine bodyPost_ret (rP3 rfl _ _ (w.heap.size + 2) rfl hZ9) rfl ?_
                  have hB9 := (bG_ hB7 hb8).trans (hr9.below (n := w.heap.size) (by omega))
                  rw [HR.out]
                  exact ⟨A, c, rfl, Sl.below HIN.out hB9, HCAP.out, hB9, fun h => by cases h⟩
              · have HNX := hd_ (show ∀ j, j < k + 1 -> (p.keep j).wide ≠ 0 from fun j hj => by
                  rcases (by omega : j < k \/ j = k) with h | rfl
                  · exact HAL.out j h
                  · exact h0)
                have hw := HFR.out.kept k hk
                unfold KeptOk at hw
                have d5 : decide ((p.keep k).wide > 0) = true := by simp; omega
                have d6 : decide (0 < (p.keep k).wide) = true := by simp; omega
                obtain ⟨wd, hwd⟩ : ∃ x, (p.keep k).wide = x := ⟨_, rfl⟩
                rw [hwd] at k1 d5 d6
                clear hw h0 hwd
                go_wp2_with fail
                go_roundw
                case rel => exact ⟨k + 1, by omega, by go_num, by trivial, HNX.out⟩
                case measure => simp [intOf] <;> omega
            · obtain rfl : k = 4 := by omega
              have HR := hd_ (tellL_err (e := 5) (show tell1 p ⟨6, oa, ob, oc⟩ = (p, 0, 5) by rw [HR0.out, freeKeep_none HAL.out]; rfl) (by decide))
              clear HR0 HAL
              go_wp2_with (first
                | (go_at_call 70; refine (noP_any p A c w.heap.size 5 _ hP).mono ?_; rintro e w5 ⟨rfl, hb5⟩; have hZ5 := hZ.below hb5 hZ.lt)
                | (refine wSP rfl rfl (by first | rfl | simp [aE, aP]) (by first | rfl | simp [aE, aP]) hZ5 ?_; intro w7 hZ7 hr7))
              refine bodyPost_ret (rP3 rfl _ _ (w.heap.size + 2) rfl hZ7) rfl ?_
              have hB7 := (bG_ hB hb5).trans (hr7.below (n := w.heap.size) (by omega))
              rw [HR.out]
              exact ⟨A, c, rfl, Sl.below HIN.out hB7, HCAP.out, hB7, fun h => by cases h⟩
end Go.Proofs.YtifmdkcpbajdcabGreatDoor

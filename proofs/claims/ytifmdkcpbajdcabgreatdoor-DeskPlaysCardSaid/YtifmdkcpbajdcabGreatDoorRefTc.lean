/- Walks: the document's answer to an order that a ship comes. -/
import Derived.Test.YtifmdkcpbajdcabGreatDoorTurnQ
set_option linter.unusedVariables false
set_option linter.unusedSimpArgs false
namespace Go.Proofs.YtifmdkcpbajdcabGreatDoor
open Go.RowKit Go.Proofs Plain
open Go.Act renaming put -> aP, eval -> aE
open Go.Lib renaming hid -> hd_
theorem shipC_info : (Tryz.prog.info? 61).map (fun i => (i.zero, i.size, i.bytes)) = some (some (.agg #[.int .i64 0, .int .i64 0, .int .i64 0, .int .i64 0, .int .i64 0, .int .i64 0]), 6, 48) := by kernel_rfl
set_option maxRecDepth 100000 in
set_option maxHeartbeats 16000000 in
theorem refTell_come (p : Port) (A : Option Addr) (c : Nat) (oa ob oc : Int) (w : World) (hg : PGood p) (hcap : p.ships.length <= c) (hin : InP w p A) :
    Calls Tryz.prog 45 #[.agg (portA p A c), .agg (orA ⟨1, oa, ob, oc⟩)] w (RetTellC (tellL p ⟨1, oa, ob, oc⟩) w) := by
  have HT := hd_ (show tell1 p ⟨1, oa, ob, oc⟩ = if (1 <= oa /\ oa <= 16) /\ (1 <= ob /\ ob <= 300) /\ (0 <= oc /\ oc <= 3) then (if 14 <= p.ships.length \/ 1048576 <= p.next then (p, 0, 5) else (p.come ⟨1, oa, ob, oc, 0, p.next⟩, (p.ships.length : Int), 0)) else (p, 0, 2) from rfl)
  have hnx := hg.next
  have hlen := hg.len
  have H4 := hd_ hg.four
  have HFR := hd_ hg.toFair
  have HP := hd_ (fair_wf hg.toFair)
  have HG := hd_ ((goodP_iff hg.four).2 hg)
  have HIN := hd_ hin
  have HCAP := hd_ hcap
  clear hg hcap
  simp only [portA, orA]
  go_enter Tryz.func45, Tryz.ntmps45
  have hP0 : PortAt (((w.alloc (.cells (portA p A c) 36)).alloc (.cells (orA ⟨1, oa, ob, oc⟩) 41)).alloc (.cells (portA Port.zero none 0) 36)) w.heap.size p A c := ((PortAt.new w p A c).alloc _).alloc _
  have hO0 : (((w.alloc (.cells (portA p A c) 36)).alloc (.cells (orA ⟨1, oa, ob, oc⟩) 41)).alloc (.cells (portA Port.zero none 0) 36)).heap[w.heap.size + 1]? = some (.cells (orA ⟨1, oa, ob, oc⟩) 41 (0, 0)) := by
    have h1 := heap_alloc_new (w.alloc (.cells (portA p A c) 36)) (.cells (orA ⟨1, oa, ob, oc⟩) 41)
    have h2 := Below.heap_alloc ((w.alloc (.cells (portA p A c) 36)).alloc (.cells (orA ⟨1, oa, ob, oc⟩) 41)) (.cells (portA Port.zero none 0) 36) (w.heap.size + 1) (by simp)
    rw [h2]; simpa using h1
  have hZ0 : PortAt (((w.alloc (.cells (portA p A c) 36)).alloc (.cells (orA ⟨1, oa, ob, oc⟩) 41)).alloc (.cells (portA Port.zero none 0) 36)) (w.heap.size + 2) Port.zero none 0 := by
    have := PortAt.new ((w.alloc (.cells (portA p A c) 36)).alloc (.cells (orA ⟨1, oa, ob, oc⟩) 41)) Port.zero none 0
    simpa using this
  have hB0 : Below w.heap.size w (((w.alloc (.cells (portA p A c) 36)).alloc (.cells (orA ⟨1, oa, ob, oc⟩) 41)).alloc (.cells (portA Port.zero none 0) 36)) := (((Below.refl _ _).alloc (Nat.le_refl _) _).alloc (by simp) _).alloc (by simp; omega) _
  have hs0 : (((w.alloc (.cells (portA p A c) 36)).alloc (.cells (orA ⟨1, oa, ob, oc⟩) 41)).alloc (.cells (portA Port.zero none 0) 36)).heap.size = w.heap.size + 3 := by simp
  obtain ⟨W0, hW0⟩ : ∃ W0, W0 = (((w.alloc (.cells (portA p A c) 36)).alloc (.cells (orA ⟨1, oa, ob, oc⟩) 41)).alloc (.cells (portA Port.zero none 0) 36)) := ⟨_, rfl⟩
  rw [<- hW0] at hP0 hO0 hZ0 hB0 hs0
  rw [zeroA] at hW0
  simp only [portA, orA] at hW0
  have HW0 := hd_ hW0
  clear hW0
  go_upto_region 2 with (fail)
  rw [<- HW0.out]
  clear HW0
  go_wp2_with (refine wLP rfl rfl (by first | rfl | simp [aE, aP]) hP0 ?_)
  refine (isPort_any p A c _ HP.out HCAP.out (Sl.below hin hB0)).mono ?_
  rintro e w1 ⟨rfl, hb1⟩
  rw [HG.out]
  have hP1 := hP0.below hb1 (by rw [hs0]; omega)
  have hZ1 := hZ0.below hb1 (by rw [hs0]; omega)
  have hO1 := (hb1.block (w.heap.size + 1) (by rw [hs0]; omega)).trans hO0
  have hB1 := bG_ hB0 hb1
  have hs1 := hb1.size
  rw [hs0] at hs1
  clear hP0 hZ0 hB0 hO0 hb1 hs0 HP HG
  go_upto_region 6 with (first
    | (refine wLP rfl rfl (by first | rfl | simp [aE, aP]) hP1 ?_)
    | (go_at_call 44; refine (copyP_any p A c _ (Sl.below hin hB1) (by unfold maxLen; omega) (by omega)).mono ?_; rintro e w2 ⟨A2, c2, rfl, ho2, hb2⟩; have hZ8 := PortAt.new w2 Port.zero none 0)
    | (refine wSP rfl rfl (by first | rfl | simp [aE, aP]) (by first | rfl | simp [aE, aP]) hZ8 ?_; intro W hQ hr8))
  have hb8 : Below w2.heap.size w2 W := ((Below.refl _ _).alloc (Nat.le_refl _) _).trans (hr8.below (Nat.le_refl _))
  have hs2 := hb2.size
  have hb3 := bG_ hb2 hb8
  have hP := hP1.below hb3 (by omega)
  have hZ := hZ1.below hb3 (by omega)
  have hO := (hb3.block (w.heap.size + 1) (by omega)).trans hO1
  have hB := bG_ hB1 hb3
  have hown : OwnK W (w.heap.size + 3) (.slice A2 p.ships.length c2) p.ships := own_weak (oBl ho2 hb8) hs1
  have hog : (Value.slice A2 p.ships.length c2).ownBlock ≠ some w2.heap.size := fun e => by
    rcases ho2.2 with ⟨hv, _⟩ | ⟨gg, cap, cur, hv, _, hh, _⟩
    · rw [hv] at e; cases e
    · rw [hv] at e; simp only [Value.ownBlock, Option.some.injEq] at e
      have := (Array.getElem?_eq_some_iff.1 hh).1
      omega
  have hg8 : w.heap.size + 3 <= w2.heap.size := by omega
  obtain ⟨g8, hg8e⟩ : ∃ g8, w2.heap.size = g8 := ⟨_, rfl⟩
  rw [hg8e] at hQ hog hg8
  rw [hg8e]
  clear hP1 hZ1 hO1 hB1 hb2 hb8 hb3 hr8 hZ8 ho2 hs1 hs2 hg8e hin
  have hoc : ∀ i, i < 4 -> W.cell? ⟨w.heap.size + 1, i, none⟩ = (orA ⟨1, oa, ob, oc⟩)[i]? := fun i hi => cell_of_row _ _ i _ _ _ hO
  have o0 := hoc 0 (by omega)
  have o1 := hoc 1 (by omega)
  have o2 := hoc 2 (by omega)
  have o3 := hoc 3 (by omega)
  simp only [orA] at o0 o1 o2 o3
  clear hoc
  cases h1 : inB oa 1 16 with
  | false =>
    have HR := hd_ (tellL_err (e := 2) (show tell1 p ⟨1, oa, ob, oc⟩ = (p, 0, 2) by rw [HT.out, if_neg (fun h => (inB_no _ _ _).1 h1 h.1)]) (by decide))
    have H1 := hd_ (iBW h1)
    clear h1 HT
    go_wp2_with (first
      | (go_at_call 41; (with_reducible refine (wI_ _ H1.out).mono ?_); rintro e w' ⟨rfl, hw'⟩; obtain rfl := hw'.symm)
      | (go_at_call 70; refine (noP_any p A c w.heap.size 2 _ hP).mono ?_; rintro e w5 ⟨rfl, hb5⟩; have hZ5 := hZ.below hb5 hZ.lt)
      | (refine wSP rfl rfl (by first | rfl | simp [aE, aP]) (by first | rfl | simp [aE, aP]) hZ5 ?_; intro w7 hZ7 hr7))
    refine bodyPost_ret (rP3 rfl _ _ (w.heap.size + 2) rfl hZ7) rfl ?_
    have hB7 := (bG_ hB hb5).trans (hr7.below (n := w.heap.size) (by omega))
    rw [HR.out]
    exact ⟨A, c, rfl, Sl.below HIN.out hB7, HCAP.out, hB7, fun h => by cases h⟩
  | true =>
    cases h2 : inB ob 1 300 with
    | false =>
      have HR := hd_ (tellL_err (e := 2) (show tell1 p ⟨1, oa, ob, oc⟩ = (p, 0, 2) by rw [HT.out, if_neg (fun h => (inB_no _ _ _).1 h2 h.2.1)]) (by decide))
      have H1 := hd_ (iBW h1)
      have H2 := hd_ (iBW h2)
      clear h1 h2 HT
      go_wp2_with (first
        | (go_at_call 41; (with_reducible refine (wI_ _ H1.out).mono ?_); rintro e w' ⟨rfl, hw'⟩; obtain rfl := hw'.symm)
        | (go_at_call 41; (with_reducible refine (wI_ _ H2.out).mono ?_); rintro e w' ⟨rfl, hw'⟩; obtain rfl := hw'.symm)
        | (go_at_call 70; refine (noP_any p A c w.heap.size 2 _ hP).mono ?_; rintro e w5 ⟨rfl, hb5⟩; have hZ5 := hZ.below hb5 hZ.lt)
        | (refine wSP rfl rfl (by first | rfl | simp [aE, aP]) (by first | rfl | simp [aE, aP]) hZ5 ?_; intro w7 hZ7 hr7))
      refine bodyPost_ret (rP3 rfl _ _ (w.heap.size + 2) rfl hZ7) rfl ?_
      have hB7 := (bG_ hB hb5).trans (hr7.below (n := w.heap.size) (by omega))
      rw [HR.out]
      exact ⟨A, c, rfl, Sl.below HIN.out hB7, HCAP.out, hB7, fun h => by cases h⟩
    | true =>
      cases h3 : inB oc 0 3 with
      | false =>
        have HR := hd_ (tellL_err (e := 2) (show tell1 p ⟨1, oa, ob, oc⟩ = (p, 0, 2) by rw [HT.out, if_neg (fun h => (inB_no _ _ _).1 h3 h.2.2)]) (by decide))
        have H1 := hd_ (iBW h1)
        have H2 := hd_ (iBW h2)
        have H3 := hd_ (iBW h3)
        clear h1 h2 h3 HT
        go_wp2_with (first
          | (go_at_call 41; (with_reducible refine (wI_ _ H1.out).mono ?_); rintro e w' ⟨rfl, hw'⟩; obtain rfl := hw'.symm)
          | (go_at_call 41; (with_reducible refine (wI_ _ H2.out).mono ?_); rintro e w' ⟨rfl, hw'⟩; obtain rfl := hw'.symm)
          | (go_at_call 41; (with_reducible refine (wI_ _ H3.out).mono ?_); rintro e w' ⟨rfl, hw'⟩; obtain rfl := hw'.symm)
          | (go_at_call 70; refine (noP_any p A c w.heap.size 2 _ hP).mono ?_; rintro e w5 ⟨rfl, hb5⟩; have hZ5 := hZ.below hb5 hZ.lt)
          | (refine wSP rfl rfl (by first | rfl | simp [aE, aP]) (by first | rfl | simp [aE, aP]) hZ5 ?_; intro w7 hZ7 hr7))
        refine bodyPost_ret (rP3 rfl _ _ (w.heap.size + 2) rfl hZ7) rfl ?_
        have hB7 := (bG_ hB hb5).trans (hr7.below (n := w.heap.size) (by omega))
        rw [HR.out]
        exact ⟨A, c, rfl, Sl.below HIN.out hB7, HCAP.out, hB7, fun h => by cases h⟩
      | true =>
        have HC := hd_ (And.intro ((inB_iff _ _ _).1 h1) (And.intro ((inB_iff _ _ _).1 h2) ((inB_iff _ _ _).1 h3)))
        have H1 := hd_ (iBW h1)
        have H2 := hd_ (iBW h2)
        have H3 := hd_ (iBW h3)
        clear h1 h2 h3
        have q1 := hP.ships
        have q15 := hP.next
        by_cases hl : p.ships.length = 14
        · have HR := hd_ (tellL_err (e := 5) (show tell1 p ⟨1, oa, ob, oc⟩ = (p, 0, 5) by rw [HT.out, if_pos HC.out, if_pos (.inl (by omega))]) (by decide))
          have d1 : ((p.ships.length : Int) == 14) = true := by simp; omega
          clear hl HT
          go_wp2_with (first
            | (go_at_call 41; (with_reducible refine (wI_ _ H1.out).mono ?_); rintro e w' ⟨rfl, hw'⟩; obtain rfl := hw'.symm)
            | (go_at_call 41; (with_reducible refine (wI_ _ H2.out).mono ?_); rintro e w' ⟨rfl, hw'⟩; obtain rfl := hw'.symm)
            | (go_at_call 41; (with_reducible refine (wI_ _ H3.out).mono ?_); rintro e w' ⟨rfl, hw'⟩; obtain rfl := hw'.symm)
            | (go_at_call 70; refine (noP_any p A c w.heap.size 5 _ hP).mono ?_; rintro e w5 ⟨rfl, hb5⟩; have hZ5 := hZ.below hb5 hZ.lt)
            | (refine wSP rfl rfl (by first | rfl | simp [aE, aP]) (by first | rfl | simp [aE, aP]) hZ5 ?_; intro w7 hZ7 hr7))
          refine bodyPost_ret (rP3 rfl _ _ (w.heap.size + 2) rfl hZ7) rfl ?_
          have hB7 := (bG_ hB hb5).trans (hr7.below (n := w.heap.size) (by omega))
          rw [HR.out]
          exact ⟨A, c, rfl, Sl.below HIN.out hB7, HCAP.out, hB7, fun h => by cases h⟩
        · have d1 : ((p.ships.length : Int) == 14) = false := by simp; omega
          by_cases hn : p.next = 1048576
          · have HR := hd_ (tellL_err (e := 5) (show tell1 p ⟨1, oa, ob, oc⟩ = (p, 0, 5) by rw [HT.out, if_pos HC.out, if_pos (.inr (by omega))]) (by decide))
            have d2 : (p.next == 1048576) = true := by simpa using hn
            clear hn hl HT
            go_wp2_with (first
              | (go_at_call 41; (with_reducible refine (wI_ _ H1.out).mono ?_); rintro e w' ⟨rfl, hw'⟩; obtain rfl := hw'.symm)
              | (go_at_call 41; (with_reducible refine (wI_ _ H2.out).mono ?_); rintro e w' ⟨rfl, hw'⟩; obtain rfl := hw'.symm)
              | (go_at_call 41; (with_reducible refine (wI_ _ H3.out).mono ?_); rintro e w' ⟨rfl, hw'⟩; obtain rfl := hw'.symm)
              | (go_at_call 70; refine (noP_any p A c w.heap.size 5 _ hP).mono ?_; rintro e w5 ⟨rfl, hb5⟩; have hZ5 := hZ.below hb5 hZ.lt)
              | (refine wSP rfl rfl (by first | rfl | simp [aE, aP]) (by first | rfl | simp [aE, aP]) hZ5 ?_; intro w7 hZ7 hr7))
            refine bodyPost_ret (rP3 rfl _ _ (w.heap.size + 2) rfl hZ7) rfl ?_
            have hB7 := (bG_ hB hb5).trans (hr7.below (n := w.heap.size) (by omega))
            rw [HR.out]
            exact ⟨A, c, rfl, Sl.below HIN.out hB7, HCAP.out, hB7, fun h => by cases h⟩
          · have d2 : (p.next == 1048576) = false := by simpa using hn
            have HT1 := hd_ (show tell1 p ⟨1, oa, ob, oc⟩ = (p.come ⟨1, oa, ob, oc, 0, p.next⟩, (p.ships.length : Int), 0) by rw [HT.out, if_pos HC.out, if_neg (by omega)])
            have y1 := hQ.ships
            have y15 := hQ.next
            have f1 := hQ.frozen 1
            have f15 := hQ.frozen 15
            have hql := hQ.lt
            have hwr : IntKind.i64.wrap (p.next + 1) = p.next + 1 := IntWalk.i64_in _ (by omega)
            obtain ⟨i0, hi0, hz0, hz1, hz2⟩ := info_parts shipC_info
            have hoa := World.ownsRow.alloc hown (.cells #[.int .i64 1, .int .i64 oa, .int .i64 ob, .int .i64 oc, .int .i64 0, .int .i64 p.next] 61)
            clear hn hl HT HC
            have hh := heap_alloc_new W (.cells #[.int .i64 1, .int .i64 oa, .int .i64 ob, .int .i64 oc, .int .i64 0, .int .i64 p.next] 61)
            have hm1 : p.ships.length + 1 <= maxLen := by unfold maxLen; omega
            go_upto_region 14 with (first
              | (go_at_call 41; (with_reducible refine (wI_ _ H1.out).mono ?_); rintro e w' ⟨rfl, hw'⟩; obtain rfl := hw'.symm)
              | (go_at_call 41; (with_reducible refine (wI_ _ H2.out).mono ?_); rintro e w' ⟨rfl, hw'⟩; obtain rfl := hw'.symm)
              | (go_at_call 41; (with_reducible refine (wI_ _ H3.out).mono ?_); rintro e w' ⟨rfl, hw'⟩; obtain rfl := hw'.symm)
              | fail)
            go_upto_region 15 with (at_builtin; refine wpList_append_own_at _ rfl _ _ 31 rfl (w.heap.size + 3) 61 i0 _ 6 48 Tryz.underlying31 hi0 hz0 hz1 hz2 rfl (by decide) (.slice A2 p.ships.length c2) p.ships.length (shC p.ships) (by first | rfl | simp [aE, aP]) hoa ⟨W.heap.size, 0, none⟩ 1 1 [.int .i64 1, .int .i64 oa, .int .i64 ob, .int .i64 oc, .int .i64 0, .int .i64 p.next] (by first | rfl | simp [aE, aP]) rfl (news_row hh (by simp [Value.oneCell'])) (by simp [Value.oneCell']) hm1 (by omega) (by have := hQ.lt; simp; omega) ?_; intro v4 w4 ho4 hg4 _ hat4; obtain ⟨A5, c5, rfl⟩ := own_form ho4; have hQ4 : PortAt w4 g8 p A2 c2 := (hg4.block g8 (by have := hQ.lt; simp; omega) (Ne.symm hog)).trans (hQ.alloc _); have y4 := hQ4.ships; have z4 := hQ4.frozen 1; have y415 := hQ4.next; have z415 := hQ4.frozen 15)
            go_upto_region 52 with (fail)
            have hgg : (Value.slice A5 (p.ships.length + 1) c5).ownBlock ≠ some g8 := fun e => by
              rcases hat4 with h | h
              · exact hog (by rw [<- h, e])
              · rw [e] at h; injection h with h; have := hQ.lt; rw [World.size_alloc] at h; omega
            have hown4 : OwnK w4 (w.heap.size + 3) (.slice A5 (p.ships.length + 1) c5) (p.ships ++ [⟨1, oa, ob, oc, 0, p.next⟩]) := by
              unfold OwnK; rw [come_cells, List.length_append]; exact ho4
            have hP4 : PortAt w4 w.heap.size p A c := (hg4.block w.heap.size (by have := hP.lt; simp; omega) (fun e => by have := oBk hoa _ e.symm; omega)).trans (hP.alloc _)
            have hZ4 : PortAt w4 (w.heap.size + 2) Port.zero none 0 := (hg4.block (w.heap.size + 2) (by have := hZ.lt; simp; omega) (fun e => by have := oBk hoa _ e.symm; omega)).trans (hZ.alloc _)
            have hB4 : Below w.heap.size w w4 := (hB.alloc hB.size (.cells #[.int .i64 1, .int .i64 oa, .int .i64 ob, .int .i64 oc, .int .i64 0, .int .i64 p.next] 61)).grown hg4 (by have := hB.size; simp; omega) (fun k hk => by have := oBk hoa k hk; omega)
            have hQ5 := hQ4.put 1 (.slice A5 (p.ships.length + 1) c5) { p with ships := p.ships ++ [⟨1, oa, ob, oc, 0, p.next⟩] } A5 c5 (by simp [portA, Port.keep])
            have hQ6 := hQ5.put 15 (.int .i64 (p.next + 1)) (p.come ⟨1, oa, ob, oc, 0, p.next⟩) A5 c5 (by simp [portA, Port.keep, Port.come])
            have hown6 := own_one' (own_one' hown4 (OneRow.of_cell w4 ⟨g8, 1, none⟩ (.slice A5 (p.ships.length + 1) c5)) hgg) (OneRow.of_cell _ ⟨g8, 15, none⟩ (.int .i64 (p.next + 1))) hgg
            have hP6 := (hP4.beside ⟨g8, 1, none⟩ (.slice A5 (p.ships.length + 1) c5) (by simp; omega)).beside ⟨g8, 15, none⟩ (.int .i64 (p.next + 1)) (by simp; omega)
            have hZ6 := (hZ4.beside ⟨g8, 1, none⟩ (.slice A5 (p.ships.length + 1) c5) (by simp; omega)).beside ⟨g8, 15, none⟩ (.int .i64 (p.next + 1)) (by simp; omega)
            have hB6 := (hB4.setCell (p := ⟨g8, 1, none⟩) (by simp; omega) (.slice A5 (p.ships.length + 1) c5)).setCell (p := ⟨g8, 15, none⟩) (by simp; omega) (.int .i64 (p.next + 1))
            obtain ⟨X, hX⟩ : ∃ X, X = (w4.setCell ⟨g8, 1, none⟩ (.slice A5 (p.ships.length + 1) c5)).setCell ⟨g8, 15, none⟩ (.int .i64 (p.next + 1)) := ⟨_, rfl⟩
            rw [<- hX] at hQ6 hown6 hP6 hZ6 hB6
            rw [<- hX]
            have hl5 : (p.come ⟨1, oa, ob, oc, 0, p.next⟩).ships.length = p.ships.length + 1 := by simp [Port.come]
            have hown7 : OwnK X (w.heap.size + 3) (.slice A5 (p.come ⟨1, oa, ob, oc, 0, p.next⟩).ships.length c5) (p.come ⟨1, oa, ob, oc, 0, p.next⟩).ships := by rw [hl5]; exact hown6
            clear hX hQ hown hP hZ hB hQ4 hown4 hP4 hZ4 hB4 hQ5 hown6 hoa hO o0 o1 o2 o3 y1 y15 f1 f15 y4 z4 y415 z415 ho4 hg4 hat4 hh hog hgg d1 d2 hm1 q1 q15 hwr
            obtain ⟨Q5, hq5⟩ : ∃ Q5, p.come ⟨1, oa, ob, oc, 0, p.next⟩ = Q5 := ⟨_, rfl⟩
            rw [hq5] at hQ6 hown7 HT1
            clear hq5 hl5
            have hQ := hQ6
            have hown := hown7
            have hP := hP6
            have hZ := hZ6
            have hB := hB6
            clear hQ6 hown7 hP6 hZ6 hB6
            have HFQ := hd_ (tell1_fair2 HFR.out HT1.out)
            cases hbq : (baseL Q5).2 with
            | true =>
              have HE := hd_ (tellL_ok HT1.out hbq)
              have HB := hd_ hbq
              clear hbq
              go_wp2_with (first
                | (refine wLP rfl rfl ?hx hQ ?_; (case hx => first | rfl | (simp [aE, aP]; done)))
                | (go_at_call 47; refine (baseOf_any Q5 A5 c5 _ HFQ.out (Sl.of_own hown)).mono ?_; rintro e w5 ⟨fs, hfl, _, rfl, hb5⟩; rw [HB.out]; have hQ5 := hQ.below hb5 hQ.lt; have hZ5 := hZ.below hb5 hZ.lt; have hB5 := bG_ hB hb5; have hown5 := oBl hown hb5; clear hb5)
                | (refine wAA rfl rfl ?_; intro w6 gB b1 b2 hA6 hb6; have hQ6 := hQ5.below hb6 hQ5.lt; have hZ6 := hZ5.below hb6 hZ5.lt; have hB6 := bG_ hB5 hb6; have hown6 := oBl hown5 hb6)
                | (refine wSA rfl rfl (by first | rfl | simp [aE, aP]) (by first | rfl | simp [aE, aP]) hA6 hfl ?_; intro w7 hA7 hr7; have hQ7 := hQ6.one hr7 (by have := hQ5.lt; omega); have hZ7 := hZ6.one hr7 (by have := hZ5.lt; omega); have hB7 := hB6.trans (hr7.below (n := w.heap.size) (by have := hB5.size; omega)); have hown7 := own_one' hown6 hr7 (fun e => by have := oBk hown5 _ e; have h2 := World.ownsRow.lt hown5 _ e; omega))
                | (refine wLP rfl rfl ?hx hQ7 ?_; (case hx => first | rfl | (simp [aE, aP]; done)))
                | (refine wSP rfl rfl (by first | rfl | simp [aE, aP]) (by first | rfl | simp [aE, aP]) hZ7 ?_; intro w8 hZ8 hr8))
              refine bodyPost_ret (rP3 rfl _ _ (w.heap.size + 2) rfl hZ8) rfl ?_
              rw [HE.out]
              have hown8 := own_one hown7 hr8 (by omega)
              exact ⟨A5, c5, rfl, Sl.of_own hown8, ownK_cap hown8, hB7.trans (hr8.below (n := w.heap.size) (by omega)), fun _ => (ownK_fr hown8).mono (by omega)⟩
            | false =>
              have HR := hd_ (tellL_no6 HT1.out hbq)
              have HB := hd_ hbq
              clear hbq
              go_wp2_with (first
                | (refine wLP rfl rfl ?hx hQ ?_; (case hx => first | rfl | (simp [aE, aP]; done)))
                | (go_at_call 47; refine (baseOf_any Q5 A5 c5 _ HFQ.out (Sl.of_own hown)).mono ?_; rintro e w5 ⟨fs, hfl, _, rfl, hb5⟩; rw [HB.out]; have hP5 := hP.below hb5 hP.lt; have hZ5 := hZ.below hb5 hZ.lt; have hB5 := bG_ hB hb5; clear hb5)
                | (refine wAA rfl rfl ?_; intro w6 gB b1 b2 hA6 hb6; have hP6 := hP5.below hb6 hP5.lt; have hZ6 := hZ5.below hb6 hZ5.lt; have hB6 := bG_ hB5 hb6)
                | (refine wSA rfl rfl (by first | rfl | simp [aE, aP]) (by first | rfl | simp [aE, aP]) hA6 hfl ?_; intro w7 hA7 hr7; have hP7 := hP6.one hr7 (by have := hP5.lt; omega); have hZ7 := hZ6.one hr7 (by have := hZ5.lt; omega); have hB7 := hB6.trans (hr7.below (n := w.heap.size) (by have := hB5.size; omega)))
                | (go_at_call 70; refine (noP_any p A c w.heap.size 6 _ hP7).mono ?_; rintro e w8 ⟨rfl, hb8⟩; have hZ8 := hZ7.below hb8 hZ7.lt)
                | (refine wSP rfl rfl (by first | rfl | simp [aE, aP]) (by first | rfl | simp [aE, aP]) hZ8 ?_; intro w9 hZ9 hr9))
              refine bodyPost_ret (rP3 rfl _ _ (w.heap.size + 2) rfl hZ9) rfl ?_
              have hB9 := (bG_ hB7 hb8).trans (hr9.below (n := w.heap.size) (by omega))
              rw [HR.out]
              exact ⟨A, c, rfl, Sl.below HIN.out hB9, HCAP.out, hB9, fun h => by cases h⟩
end Go.Proofs.YtifmdkcpbajdcabGreatDoor

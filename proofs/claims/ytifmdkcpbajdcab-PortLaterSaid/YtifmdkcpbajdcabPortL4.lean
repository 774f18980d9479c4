/- Walks: time alone moves nobody. -/
import Derived.Test.YtifmdkcpbajdcabDueW
import Derived.Test.YtifmdkcpbajdcabPortsW
namespace Go.Proofs.Ytifmdkcpbajdcab
open Go.RowKit Go.Proofs Plain

set_option maxRecDepth 100000 in
set_option maxHeartbeats 20000000 in
theorem portLater_walk (hports : PortsOk) (p : Port) (A : Option Addr) (c : Nat) (w : World) (hp : PWf p) (hin : InP w p A) :
    Calls Try.prog 3 #[.agg (portA p A c)] w fun e w' => e = .returned (.bool true) ∧ Below w.heap.size w w' := by
  have HPS := Lib.hid hports
  clear hports
  cases hg : goodP p with
  | false =>
    have HG := Lib.hid hg
    clear hg
    simp only [portA]
    go_enter Try.func3, Try.ntmps3
    have hP0 : PortAt (w.alloc (.cells (portA p A c) 27)) w.heap.size p A c := PortAt.new w p A c
    have hB0 : Below w.heap.size w (w.alloc (.cells (portA p A c) 27)) := (Below.refl _ _).alloc (Nat.le_refl _) _
    simp only [portA] at hP0 hB0
    go_wp2_with (refine wpList_load_port rfl rfl (by first | rfl | simp [Act.eval, Act.put]) hP0 ?_)
    refine (good_port p A c _ hp (Sl.below hin hB0)).mono ?_
    rintro e w1 ⟨rfl, hb1⟩
    rw [HG.out]
    go_wp2_with fail
    refine (HPS.out _).mono ?_
    rintro e w2 ⟨rfl, hb2⟩
    go_wp2_with fail
    go_ret
    exact ⟨rfl, below_go (below_go hB0 hb1) hb2⟩
  | true =>
    have hgood := (goodP_iff hp.four).1 hg
    have HG := Lib.hid hg
    have HGD := Lib.hid hgood
    have hn := hgood.now
    have hlen := hgood.len
    have HPL := Lib.hid (plan_len hgood)
    have HNP := Lib.hid (next_plan hgood)
    have HLF := Lib.hid (@later_facts p hgood)
    clear hg hgood
    obtain ⟨n0, n1⟩ := hn
    simp only [portA]
    go_enter Try.func3, Try.ntmps3
    have hP0 : PortAt (w.alloc (.cells (portA p A c) 27)) w.heap.size p A c := PortAt.new w p A c
    have hB0 : Below w.heap.size w (w.alloc (.cells (portA p A c) 27)) := (Below.refl _ _).alloc (Nat.le_refl _) _
    simp only [portA] at hP0 hB0
    go_wp2_with (refine wpList_load_port rfl rfl (by first | rfl | simp [Act.eval, Act.put]) hP0 ?_)
    refine (good_port p A c _ hp (Sl.below hin hB0)).mono ?_
    rintro e w1 ⟨rfl, hb1⟩
    rw [HG.out]
    have hP1 := PortAt.below (p := p) (A := A) (c := c) hP0 hb1 (by simp)
    have hB1 := below_go hB0 hb1
    go_wp2_with (refine wpList_load_port rfl rfl (by first | rfl | simp [Act.eval, Act.put]) hP1 ?_)
    refine (plan_any p A c _ HGD.out (Sl.below hin hB1)).mono ?_
    rintro e w3 ⟨A3, c3, rfl, h3, hb3, hr3⟩
    have hP3 := hP1.below hb3 hP1.lt
    have hB3 := below_go hB1 hb3
    clear hP0 hB0 hP1 hB1 hb1 hb3
    go_wp2_with (refine wpList_load_port rfl rfl (by first | rfl | simp [Act.eval, Act.put]) hP3 ?_)
    refine (due_walk p A c (thePlan p) A3 c3 _ hp (by omega) (Sl.below hin hB3) (by rw [HPL.out]; omega) h3).mono ?_
    rintro e w4 ⟨Aq, cq, B, d, rfl, hiq, hsw, hb4⟩
    have hP4 := (hP3.below hb4 hP3.lt).alloc (.cells (portA (dueL p (thePlan p)) Aq cq) 27)
    have hQ4 := PortAt.new w4 (dueL p (thePlan p)) Aq cq
    have hB4 := (below_go hB3 hb4).alloc (below_go hB3 hb4).size (.cells (portA (dueL p (thePlan p)) Aq cq) 27)
    have h34 := (h3.below hb4).alloc (.cells (portA (dueL p (thePlan p)) Aq cq) 27)
    have hsw4 := hsw.alloc (.cells (portA (dueL p (thePlan p)) Aq cq) 27)
    have hiq4 : InP (w4.alloc (.cells (portA (dueL p (thePlan p)) Aq cq) 27)) (dueL p (thePlan p)) Aq := Sl.alloc hiq _
    have hz4 := hb4.size
    have HLQ := Lib.hid (show (dueL p (thePlan p)).ships.length = p.ships.length from next_len p)
    have HNQ := Lib.hid (show (dueL p (thePlan p)).now = p.now from next_now p)
    have HWG := Lib.hid (fun k h => @who_get p k h)
    have HGQ := Lib.hid (show PGood (dueL p (thePlan p)) from HNP.out.1)
    have HLW := Lib.hid (fun h => later_walk (dueL p (thePlan p)) Aq cq (w4.alloc (.cells (portA (dueL p (thePlan p)) Aq cq) 27)) HGQ.out hiq4 h)
    have HLE := Lib.hid (fun h => later_end (dueL p (thePlan p)) Aq cq (w4.alloc (.cells (portA (dueL p (thePlan p)) Aq cq) 27)) HGQ.out hiq4 h)
    have HNL := Lib.hid (show dueL p (thePlan p) = nextL p from rfl)
    have hplt := hP3.lt
    clear hP3 hB3 hb4 h3 hsw hiq
    generalize dueL p (thePlan p) = q at *
    simp only [portA] at hP4 hQ4 hB4 h34 hsw4 hiq4 HLW HLE ⊢
    go_wp2_with (refine wpList_load_port (p := q) (A := Aq) (c := cq) rfl rfl (by first | rfl | simp [Act.eval, Act.put]) hQ4 ?_)
    by_cases h1 : p.now + 1 < 300
    · refine (HLW.out (by rw [HNQ.out]; exact h1)).mono ?_
      rintro e w5 ⟨Ar, cr, rfl, hir, hb5⟩
      obtain ⟨hgr, hpr⟩ := HLF.out h1
      have HGR := Lib.hid (show PGood (laterL q) by rw [HNL.out]; exact hgr)
      have HPR := Lib.hid (show thePlan (laterL q) = notDue p (thePlan p) by rw [HNL.out]; exact hpr)
      have HLR := Lib.hid (show (laterL q).ships.length = p.ships.length by rw [later_len, HLQ.out])
      have hR6 := PortAt.new w5 (laterL q) Ar cr
      have hP6 := (PortAt.below (p := p) (A := A) (c := c) hP4 hb5 (by simp; omega)).alloc (.cells (portA (laterL q) Ar cr) 27)
      have hQ6 := (PortAt.below (p := q) (A := Aq) (c := cq) hQ4 hb5 (by simp)).alloc (.cells (portA (laterL q) Ar cr) 27)
      have hB6 := (below_go hB4 hb5).alloc (below_go hB4 hb5).size (.cells (portA (laterL q) Ar cr) 27)
      have h36 := (h34.below hb5).alloc (.cells (portA (laterL q) Ar cr) 27)
      have hsw6 := (hsw4.below hb5).alloc (.cells (portA (laterL q) Ar cr) 27)
      have hiq6 : InP (w5.alloc (.cells (portA (laterL q) Ar cr) 27)) q Aq := Sl.alloc (Sl.below hiq4 hb5) _
      have hir6 : InP (w5.alloc (.cells (portA (laterL q) Ar cr) 27)) (laterL q) Ar := Sl.alloc hir _
      have hz5 := hb5.size
      clear hgr hpr hP4 hQ4 hB4 h34 hsw4 hiq4 HLW HLE hb5 hir HLF HNP
      dsimp only
      generalize laterL q = r at *
      simp only [portA] at hP6 hQ6 hR6 hB6 h36 hsw6 hiq6 hir6 ⊢
      go_wp2_with (refine wpList_load_port (p := r) (A := Ar) (c := cr) rfl rfl (by first | rfl | simp [Act.eval, Act.put]) hR6 ?_)
      refine (plan_any r Ar cr _ HGR.out hir6).mono ?_
      rintro e w8 ⟨A8, c8, rfl, h8, hb8, hr8⟩
      have HX := Lib.hid (show (thePlan r).length = p.ships.length by rw [HPR.out]; simp [notDue, HPL.out])
      have HLN := Lib.hid (fun k => late_now HGD.out k)
      have hP8 := PortAt.below (p := p) (A := A) (c := c) hP6 hb8 (PortAt.lt hP6)
      have hQ8 := PortAt.below (p := q) (A := Aq) (c := cq) hQ6 hb8 (PortAt.lt hQ6)
      have hR8 := PortAt.below (p := r) (A := Ar) (c := cr) hR6 hb8 (by simp)
      have hB8 := below_go hB6 hb8
      have h38 := h36.below hb8
      have hsw8 := hsw6.below hb8
      have hiq8 := Sl.below hiq6 hb8
      have hir8 := Sl.below hir6 hb8
      have q0 := hP8.now
      have q1 := hQ8.ships
      have HWL := Lib.hid (natsI_len (whoL p (thePlan p)))
      have hwl : (whoL p (thePlan p)).length ≤ p.ships.length := by
        have := List.length_filter_le (isDue p (thePlan p)) (List.range p.ships.length)
        rwa [List.length_range] at this
      rw [← HPR.out] at HLN
      clear hP6 hQ6 hR6 hB6 hb8 h36 hsw6 hiq6 hir6 hr8 HPR
      rw [HPL.out] at h38 ⊢
      rw [HX.out] at h8 ⊢
      go_wp2_with fail
      go_loopw [42] (fun i wr => ∃ k : Nat, k ≤ p.ships.length ∧ i = .int .i64 k ∧ wr = w8) (fun i _ => p.ships.length - (intOf i).toNat)
      case atStart => exact ⟨0, Nat.zero_le _, rfl, rfl⟩
      case round =>
        obtain ⟨k, hk, rfl, hw⟩ := hrel
        have hw' := hw.symm
        clear hw
        subst hw'
        by_cases hlt : k < p.ships.length
        · obtain ⟨b3, off3, hA3, hbl3, hc3⟩ := ints_at (l := thePlan p) (by rw [HPL.out]; exact h38) (by rw [HPL.out]; omega)
          subst hA3
          have e3 := hc3 k (by rw [HPL.out]; exact hlt)
          obtain ⟨b8, off8, hA8, hbl8, hc8⟩ := ints_at (l := thePlan r) (by rw [HX.out]; exact h8) (by rw [HX.out]; omega)
          subst hA8
          have e8 := hc8 k (by rw [HX.out]; exact hlt)
          clear hc3 hc8
          have hd3 : (thePlan p).getD k 0 = (thePlan p).getD k (-1) := by
            have hk2 : k < (thePlan p).length := by rw [HPL.out]; exact hlt
            rw [List.getD_eq_getElem?_getD, List.getD_eq_getElem?_getD, List.getElem?_eq_getElem hk2]; rfl
          have hd8 : (thePlan r).getD k 0 = (thePlan r).getD k (-1) := by
            have hk2 : k < (thePlan r).length := by rw [HX.out]; exact hlt
            rw [List.getD_eq_getElem?_getD, List.getD_eq_getElem?_getD, List.getElem?_eq_getElem hk2]; rfl
          rw [hd3] at e3
          rw [hd8] at e8
          obtain ⟨L1, L2⟩ := HLN.out k
          clear hd3 hd8
          generalize (thePlan p).getD k (-1) = t at *
          generalize (thePlan r).getD k (-1) = x at *
          by_cases hgt : p.now < t
          · obtain rfl := L1 hgt
            have d1 : decide (p.now < x) = true := by simpa using hgt
            have d2 : decide (x < 0) = false := by simp; omega
            clear L1 L2
            go_wp2_with fail
            go_roundw
            case rel => exact ⟨k + 1, by omega, by go_num, by trivial⟩
            case measure => simp [intOf] <;> omega
          · have d1 : decide (p.now < t) = false := by simpa using hgt
            by_cases hneg : t < 0
            · have hx := L2 hneg
              have d2 : decide (t < 0) = true := by simpa using hneg
              have d3 : decide (0 ≤ x) = false := by simp; omega
              clear L1 L2
              go_wp2_with fail
              go_roundw
              case rel => exact ⟨k + 1, by omega, by go_num, by trivial⟩
              case measure => simp [intOf] <;> omega
            · have d2 : decide (t < 0) = false := by simpa using hneg
              clear L1 L2
              go_wp2_with fail
              go_roundw
              case rel => exact ⟨k + 1, by omega, by go_num, by trivial⟩
              case measure => simp [intOf] <;> omega
        · obtain rfl : k = p.ships.length := by omega
          go_wp2_with fail
          go_loopw [73] (fun i wr => ∃ k m : Nat, k ≤ (whoL p (thePlan p)).length ∧ i = .int .i64 k ∧ wr = w8.drewN m) (fun i _ => (whoL p (thePlan p)).length - (intOf i).toNat)
          case atStart => exact ⟨0, 0, Nat.zero_le _, rfl, rfl⟩
          case round =>
            obtain ⟨k, m, hk, rfl, rfl⟩ := hrel
            by_cases hlt : k < (whoL p (thePlan p)).length
            · obtain ⟨bw, offw, hBw, hblw, hcw⟩ := ints_at (l := natsI (whoL p (thePlan p))) (by rw [HWL.out]; exact hsw8) (by rw [HWL.out]; omega)
              subst hBw
              have ew := hcw k (by rw [HWL.out]; exact hlt)
              rw [natsI_get _ _ hlt] at ew
              obtain ⟨g1, g2, g3, g4⟩ := HWG.out k hlt
              rw [← HNL.out] at g3 g4
              clear hcw
              generalize (whoL p (thePlan p)).getD k 0 = j at *
              obtain ⟨b3, off3, hA3, hbl3, hc3⟩ := ints_at (l := thePlan p) (by rw [HPL.out]; exact h38) (by rw [HPL.out]; omega)
              subst hA3
              have e3 := hc3 j (by rw [HPL.out]; exact g1)
              have hd3 : (thePlan p).getD j 0 = (thePlan p).getD j (-1) := by
                have hk2 : j < (thePlan p).length := by rw [HPL.out]; exact g1
                rw [List.getD_eq_getElem?_getD, List.getD_eq_getElem?_getD, List.getElem?_eq_getElem hk2]; rfl
              rw [hd3, g2] at e3
              clear hc3 hd3 g2
              have hjq : j < q.ships.length := by rw [HLQ.out]; exact g1
              obtain ⟨bs, offs, hAq, hbl, hcells⟩ := ships_at hiq8 (by omega)
              subst hAq
              obtain ⟨d1, _, _, _, d5, _⟩ := hcells j hjq
              change w8.cell? _ = some (.int .i64 (q.ship j).state) at d1
              change w8.cell? _ = some (.int .i64 (q.ship j).since) at d5
              rw [g3] at d1
              rw [g4] at d5
              clear hcells g3 g4
              go_wp2_with fail
              go_quiet (fail)
              go_wp2_with fail
              go_roundw
              case rel => exact ⟨k + 1, m + nq, by omega, by go_num, by first | trivial | rw [World.drewN_drewN]⟩
              case measure => simp [intOf] <;> omega
            · obtain rfl : k = (whoL p (thePlan p)).length := by omega
              have hQ9 := hQ8.drewN m
              go_wp2_with (refine wpList_load_port (p := q) (A := Aq) (c := cq) rfl rfl (by first | rfl | simp [Act.eval, Act.put]) hQ9 ?_)
              refine (good_port q Aq cq _ (fair_wf HGQ.out.toFair) (Sl.drewN hiq8 m)).mono ?_
              rintro e w9 ⟨rfl, hb9⟩
              rw [(goodP_iff HGQ.out.four).2 HGQ.out]
              have hR9 := (hR8.drewN m).below hb9 (PortAt.lt (hR8.drewN m))
              have x0 := hR9.cell 0
              have x1 := hR9.cell 1
              have x2 := hR9.cell 2
              have x3 := hR9.cell 3
              have x4 := hR9.cell 4
              have x5 := hR9.cell 5
              have x6 := hR9.cell 6
              have x7 := hR9.cell 7
              have x8 := hR9.cell 8
              have x9 := hR9.cell 9
              have x10 := hR9.cell 10
              have x11 := hR9.cell 11
              have x12 := hR9.cell 12
              have x13 := hR9.cell 13
              have x14 := hR9.cell 14
              have x15 := hR9.cell 15
              simp only [portA] at x0 x1 x2 x3 x4 x5 x6 x7 x8 x9 x10 x11 x12 x13 x14 x15
              have hir9 := Sl.below (Sl.drewN hir8 m) hb9
              have hB9 := below_go (below_drewN hB8 m) hb9
              go_wp2_with fail
              refine (good_port r Ar cr _ (fair_wf HGR.out.toFair) hir9).mono ?_
              rintro e w10 ⟨rfl, hb10⟩
              rw [(goodP_iff HGR.out.four).2 HGR.out]
              go_wp2_with fail
              refine (HPS.out _).mono ?_
              rintro e w11 ⟨rfl, hb11⟩
              go_wp2_with fail
              go_ret
              exact ⟨rfl, below_go (below_go hB9 hb10) hb11⟩
    · have hnow : p.now = 299 := by omega
      refine (HLE.out (by rw [HNQ.out]; omega)).mono ?_
      rintro e w5 ⟨Ar, cr, rfl, hir, hb5⟩
      have hP5 := PortAt.below (p := p) (A := A) (c := c) hP4 hb5 (PortAt.lt hP4)
      have hP6 := hP5.alloc (.cells (portA q Ar cr) 27)
      have hB6 := (below_go hB4 hb5).alloc (below_go hB4 hb5).size (.cells (portA q Ar cr) 27)
      have q0 := hP6.now
      clear hP4 hQ4 hB4 h34 hsw4 hiq4 HLW HLE hb5 hir HLF HNP hP5
      dsimp only
      simp only [portA] at hP6 hB6 q0 ⊢
      go_wp2_with fail
      refine (HPS.out _).mono ?_
      rintro e w11 ⟨rfl, hb11⟩
      go_wp2_with fail
      go_ret
      exact ⟨rfl, below_go hB6 hb11⟩
end Go.Proofs.Ytifmdkcpbajdcab

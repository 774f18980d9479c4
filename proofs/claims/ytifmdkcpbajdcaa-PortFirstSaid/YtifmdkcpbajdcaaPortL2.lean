/- Walks: nobody could come in earlier without moving one who is ahead, given that port answers at all. -/
import Derived.Test.YtifmdkcpbajdcaaPortL1
import Derived.Deep.RegionHeld3
namespace Go.Proofs.Ytifmdkcpbajdcaa
open Go.RowKit Go.Proofs Plain

set_option maxRecDepth 100000 in
set_option maxHeartbeats 20000000 in
theorem portFirst_walk (hports : PortsOk) (p : Port) (A : Option Addr) (c : Nat) (w : World) (hp : PWf p) (hin : InP w p A) :
    Calls Try.prog 11 #[.agg (portA p A c)] w fun e w' => e = .returned (.bool true) ∧ Below w.heap.size w w' := by
  have HPS := Lib.hid hports
  clear hports
  cases hg : goodP p with
  | false =>
    have HG := Lib.hid hg
    clear hg
    simp only [portA]
    go_enter Try.func11, Try.ntmps11
    have hP0 : PortAt (w.alloc (.cells (portA p A c) 46)) w.heap.size p A c := PortAt.new w p A c
    have hB0 : Below w.heap.size w (w.alloc (.cells (portA p A c) 46)) := (Below.refl _ _).alloc (Nat.le_refl _) _
    simp only [portA] at hP0 hB0
    go_wp2_with (refine wpList_load_port rfl rfl (by first | rfl | simp [Act.eval, Act.put]) hP0 ?_)
    refine (good_port p A c _ hp (Sl.below hin hB0)).mono ?_
    rintro e w1 ⟨rfl, hb1⟩
    rw [HG.out]
    go_wp2_with fail
    refine (HPS.out _).mono ?_
    rintro e w2 ⟨rfl, hb2⟩
    go_wp2_with fail
    go_ret
    exact ⟨rfl, below_go (below_go hB0 hb1) hb2⟩
  | true =>
    have hgood := (goodP_iff hp.four).1 hg
    have HG := Lib.hid hg
    have HGD := Lib.hid hgood
    have hn := hgood.now
    have hlen := hgood.len
    have HBT := Lib.hid ((base_good hgood.toFair).1.2 hgood.room)
    have HPL := Lib.hid (plan_len hgood)
    have hrl := rank_len p
    clear hg hgood
    obtain ⟨n0, n1⟩ := hn
    simp only [portA]
    go_enter Try.func11, Try.ntmps11
    have hP0 : PortAt (w.alloc (.cells (portA p A c) 46)) w.heap.size p A c := PortAt.new w p A c
    have hB0 : Below w.heap.size w (w.alloc (.cells (portA p A c) 46)) := (Below.refl _ _).alloc (Nat.le_refl _) _
    simp only [portA] at hP0 hB0
    go_wp2_with (refine wpList_load_port rfl rfl (by first | rfl | simp [Act.eval, Act.put]) hP0 ?_)
    refine (good_port p A c _ hp (Sl.below hin hB0)).mono ?_
    rintro e w1 ⟨rfl, hb1⟩
    rw [HG.out]
    have hP1 := PortAt.below (p := p) (A := A) (c := c) hP0 hb1 (by simp)
    have hB1 := below_go hB0 hb1
    go_wp2_with (refine wpList_load_port rfl rfl (by first | rfl | simp [Act.eval, Act.put]) hP1 ?_)
    refine (base_fr p A c _ HGD.out.toFair (Sl.below hin hB1)).mono ?_
    rintro e w2 ⟨A2, c2, rfl, h2, hb2, hr2⟩
    rw [HBT.out]
    have hP2 := hP1.below hb2 hP1.lt
    have hB2 := below_go hB1 hb2
    go_wp2_with (refine wpList_load_port rfl rfl (by first | rfl | simp [Act.eval, Act.put]) hP2 ?_)
    refine (plan_any p A c _ HGD.out (Sl.below hin hB2)).mono ?_
    rintro e w3 ⟨A3, c3, rfl, h3, hb3, hr3⟩
    have hP3 := hP2.below hb3 hP2.lt
    have hB3 := below_go hB2 hb3
    have h23 := h2.below hb3
    rw [HPL.out]
    rw [HPL.out] at h3
    go_wp2_with (refine wpList_load_port rfl rfl (by first | rfl | simp [Act.eval, Act.put]) hP3 ?_)
    refine (ranked_any p A c _ HGD.out (Sl.below hin hB3)).mono ?_
    rintro e w4 ⟨A6, c6, rfl, h6, hb4, hr6⟩
    have hP4 := hP3.below hb4 hP3.lt
    have hB4 := below_go hB3 hb4
    have h24 := h23.below hb4
    have h34 := h3.below hb4
    rw [natsI_len]
    rw [natsI_len] at h6
    clear hP0 hB0 hP1 hB1 hP2 hB2 hP3 hB3 hb1 hb2 hb3 hb4 h2 h3 h23 hr2 hr3 hr6
    go_wp2_with fail
    go_loopw [27, 3] (fun i b wr => ∃ (k : Nat) (A4 : Option Addr) (c4 : Nat), k ≤ (rankL p).length ∧ i = .int .i64 k ∧ b = .slice A4 (firstL p (thePlan p) (rankL p) k).length c4 ∧ Sl wr 2 A4 (firstL p (thePlan p) (rankL p) k).length (stepCells (firstL p (thePlan p) (rankL p) k)) ∧ PortAt wr w.heap.size p A c ∧ Below w.heap.size w wr ∧ Sl wr 1 A3 p.ships.length ((thePlan p).map (Value.int .i64)) ∧ Sl wr 1 A6 (rankL p).length ((natsI (rankL p)).map (Value.int .i64))) (fun i _ _ => (rankL p).length - (intOf i).toNat)
    case atStart => exact ⟨0, A2, c2, Nat.zero_le _, rfl, rfl, h24, hP4, hB4, h34, h6⟩
    case round =>
      clear hP4 hB4 h24 h34 h6
      obtain ⟨k, A4, c4, hk, rfl, rfl, hS, hP, hB, h3, h6⟩ := hrel
      have q0 := hP.now
      have q1 := hP.ships
      have hglt := hP.lt
      by_cases hlt : k < (rankL p).length
      · obtain ⟨b6, off6, hA6, hbl6, hc6⟩ := ints_at (l := natsI (rankL p)) (by rw [natsI_len]; exact h6) (by rw [natsI_len]; omega)
        subst hA6
        have e6 := hc6 k (by rw [natsI_len]; exact hlt)
        rw [natsI_get _ _ hlt] at e6
        clear hc6
        obtain ⟨i0, i1⟩ := rank_get (rankL_is HGD.out) hlt
        obtain ⟨R1, R2, R3⟩ := first_round HGD.out (thePlan_is HGD.out) (rankL_is HGD.out) hlt
        have hml := good_max (first_takes HGD.out (thePlan_is HGD.out) (rankL_is HGD.out) k hk).1
        have hso := (HGD.out.ship _ i0).1
        have hwd := hso.wide
        have hlg := hso.long
        have HWT := Lib.hid (@plan_waits p (thePlan p) ((rankL p).getD k 0) HGD.out (thePlan_is HGD.out) i0)
        generalize (rankL p).getD k 0 = j at *
        obtain ⟨b3, off3, hA3, hbl3, hc3⟩ := ints_at (l := thePlan p) (by rw [HPL.out]; exact h3) (by rw [HPL.out]; omega)
        subst hA3
        have e3 := hc3 j (by rw [HPL.out]; exact i0)
        clear hc3
        obtain ⟨bs, offs, hA, hbl, hcells⟩ := ships_at (Sl.below hin hB) (by omega)
        subst hA
        obtain ⟨d1, d2, d3, d4, d5, d6⟩ := hcells j i0
        clear hcells
        have hd : (thePlan p).getD j 0 = (thePlan p).getD j (-1) := by
          have hk2 : j < (thePlan p).length := by rw [HPL.out]; exact i0
          rw [List.getD_eq_getElem?_getD, List.getD_eq_getElem?_getD, List.getElem?_eq_getElem hk2]; rfl
        rw [hd] at e3
        clear hd hso
        generalize (thePlan p).getD j (-1) = t at *
        generalize firstL p (thePlan p) (rankL p) k = L at *
        change wr.cell? _ = some (.int .i64 (p.ship j).state) at d1
        change wr.cell? _ = some (.int .i64 (p.ship j).wide) at d2
        change wr.cell? _ = some (.int .i64 (p.ship j).long) at d3
        change wr.cell? _ = some (.int .i64 (p.ship j).cls) at d4
        change wr.cell? _ = some (.int .i64 (p.ship j).since) at d5
        change wr.cell? _ = some (.int .i64 (p.ship j).queued) at d6
        generalize p.ship j = x at *
        obtain ⟨sst, wd, lg, cl, si, qu⟩ := x
        dsimp only at *
        subst i1
        have hPa := hP.alloc (.cells (shipV ⟨1, wd, lg, cl, si, qu⟩) 48)
        have hBa := hB.alloc hB.size (.cells (shipV ⟨1, wd, lg, cl, si, qu⟩) 48)
        have hSa := hS.alloc (.cells (shipV ⟨1, wd, lg, cl, si, qu⟩) 48)
        have h3a := h3.alloc (.cells (shipV ⟨1, wd, lg, cl, si, qu⟩) 48)
        have h6a := h6.alloc (.cells (shipV ⟨1, wd, lg, cl, si, qu⟩) 48)
        have e3a : (wr.alloc (.cells (shipV ⟨1, wd, lg, cl, si, qu⟩) 48)).cell? ⟨b3, off3 + j, none⟩ = some (.int .i64 t) := (World.cell?_alloc_lt _ _ ⟨b3, off3 + j, none⟩ hbl3).trans e3
        have hva : ∀ i, i < 6 → (wr.alloc (.cells (shipV ⟨1, wd, lg, cl, si, qu⟩) 48)).cell? ⟨wr.heap.size, i, none⟩ = (shipV ⟨1, wd, lg, cl, si, qu⟩)[i]? := fun i hi => by
          rw [cell_of_row _ wr.heap.size i _ _ _ (heap_alloc_new wr _)]
        have hza : (wr.alloc (.cells (shipV ⟨1, wd, lg, cl, si, qu⟩) 48)).heap.size = wr.heap.size + 1 := by simp
        simp only [shipV] at hPa hBa hSa h3a h6a e3a hva hza
        by_cases ht : t < 0
        · have dt : decide (t < 0) = true := by simpa using ht
          have dg : decide (0 ≤ t) = false := by simp; omega
          rw [if_pos ht] at R1
          have HR1 := Lib.hid R1
          have HE := Lib.hid (R2 ht)
          clear R1 R2 R3 HWT
          go_wp2_with fail
          generalize wr.alloc (.cells #[.int .i64 1, .int .i64 wd, .int .i64 lg, .int .i64 cl, .int .i64 si, .int .i64 qu] 48) = wa at *
          have v1 : wa.cell? ⟨wr.heap.size, 1, none⟩ = some (.int .i64 wd) := hva 1 (by omega)
          have v2 : wa.cell? ⟨wr.heap.size, 2, none⟩ = some (.int .i64 lg) := hva 2 (by omega)
          have hb3a : b3 < wa.heap.size := by omega
          have hgla : w.heap.size < wa.heap.size := by omega
          have hvla : wr.heap.size < wa.heap.size := by omega
          clear hva hP hB hS h3 h6 e3 d1 d2 d3 d4 d5 d6 q0 q1 hglt e6
          generalize wr.heap.size = V at *
          go_loopw [10] (fun i wi => ∃ u : Nat, i = .int .i64 u ∧ p.now ≤ u ∧ ((u : Int) ≤ 300 - lg + 1 ∨ (u : Int) = p.now) ∧ Below wa.heap.size wa wi) (fun i _ => 700 - (intOf i).toNat)
          case atStart => exact ⟨p.now.toNat, by rw [show ((p.now.toNat : Nat) : Int) = p.now by omega], by omega, by omega, Below.refl _ _⟩
          case round =>
            obtain ⟨u, rfl, hu0, hu1, hb⟩ := hrel
            have hzb := hb.size
            have v1' : wr.cell? ⟨V, 1, none⟩ = some (.int .i64 wd) := (hb.cell (p := ⟨V, 1, none⟩) hvla).trans v1
            have v2' : wr.cell? ⟨V, 2, none⟩ = some (.int .i64 lg) := (hb.cell (p := ⟨V, 2, none⟩) hvla).trans v2
            have e3' : wr.cell? ⟨b3, off3 + j, none⟩ = some (.int .i64 t) := (hb.cell (p := ⟨b3, off3 + j, none⟩) hb3a).trans e3a
            have hSi := hSa.below hb
            by_cases hut : (u : Int) < 300 - lg + 1
            · have HT := Lib.hid (HR1.out (u : Int) hu0 hut)
              go_wp2_with fail
              refine (take_any L A4 c4 u (u + lg) wd _ hSi hml).mono ?_
              rintro e w5 ⟨A5, c5, rfl, h5, hb5⟩
              rw [HT.out]
              go_wp2_with fail
              go_roundw
              case rel => exact ⟨u + 1, by go_num, by omega, by omega, hb.trans (hb5.mono hzb)⟩
              case measure => simp [intOf] <;> omega
            · go_wp2_with fail
              go_roundw
              case rel => exact ⟨k + 1, A4, c4, by omega, by go_num, by rw [HE.out], by rw [HE.out]; exact hSi, hPa.below hb hgla, hBa.trans (hb.mono (Nat.le_of_lt hgla)), h3a.below hb, h6a.below hb⟩
              case measure => simp [intOf] <;> omega
        · have dt : decide (t < 0) = false := by simpa using ht
          have dg : decide (0 ≤ t) = true := by simp; omega
          rw [if_neg ht] at R1
          have HR1 := Lib.hid R1
          have HE := Lib.hid (R3 (by omega))
          have HW := Lib.hid (HWT.out (by omega))
          clear R1 R2 R3 HWT
          obtain ⟨_, s2, s3⟩ := HW.out
          go_wp2_with fail
          generalize wr.alloc (.cells #[.int .i64 1, .int .i64 wd, .int .i64 lg, .int .i64 cl, .int .i64 si, .int .i64 qu] 48) = wa at *
          have v1 : wa.cell? ⟨wr.heap.size, 1, none⟩ = some (.int .i64 wd) := hva 1 (by omega)
          have v2 : wa.cell? ⟨wr.heap.size, 2, none⟩ = some (.int .i64 lg) := hva 2 (by omega)
          have hb3a : b3 < wa.heap.size := by omega
          have hgla : w.heap.size < wa.heap.size := by omega
          have hvla : wr.heap.size < wa.heap.size := by omega
          clear hva hP hB hS h3 h6 e3 d1 d2 d3 d4 d5 d6 q0 q1 hglt e6
          generalize wr.heap.size = V at *
          go_loopw [10] (fun i wi => ∃ u : Nat, i = .int .i64 u ∧ p.now ≤ u ∧ ((u : Int) ≤ t ∨ (u : Int) = p.now) ∧ Below wa.heap.size wa wi) (fun i _ => 700 - (intOf i).toNat)
          case atStart => exact ⟨p.now.toNat, by rw [show ((p.now.toNat : Nat) : Int) = p.now by omega], by omega, by omega, Below.refl _ _⟩
          case round =>
            obtain ⟨u, rfl, hu0, hu1, hb⟩ := hrel
            have hzb := hb.size
            have v1' : wr.cell? ⟨V, 1, none⟩ = some (.int .i64 wd) := (hb.cell (p := ⟨V, 1, none⟩) hvla).trans v1
            have v2' : wr.cell? ⟨V, 2, none⟩ = some (.int .i64 lg) := (hb.cell (p := ⟨V, 2, none⟩) hvla).trans v2
            have e3' : wr.cell? ⟨b3, off3 + j, none⟩ = some (.int .i64 t) := (hb.cell (p := ⟨b3, off3 + j, none⟩) hb3a).trans e3a
            have hSi := hSa.below hb
            by_cases hut : (u : Int) < t
            · have HT := Lib.hid (HR1.out (u : Int) hu0 hut)
              go_wp2_with fail
              refine (take_any L A4 c4 u (u + lg) wd _ hSi hml).mono ?_
              rintro e w5 ⟨A5, c5, rfl, h5, hb5⟩
              rw [HT.out]
              go_wp2_with fail
              go_roundw
              case rel => exact ⟨u + 1, by go_num, by omega, by omega, hb.trans (hb5.mono hzb)⟩
              case measure => simp [intOf] <;> omega
            · have hlw := IntWalk.i64_in (t + lg) (by omega)
              go_wp2_with fail
              go_region_held3 (fun w' => w'.cell? ⟨b3, off3 + j, none⟩ = some (.int .i64 t) ∧ w'.cell? ⟨V, 1, none⟩ = some (.int .i64 wd) ∧ w'.cell? ⟨V, 2, none⟩ = some (.int .i64 lg))
                (first
                  | go_keep
                  | exact ⟨(hb5.cell (p := ⟨b3, off3 + j, none⟩) (Nat.lt_of_lt_of_le hb3a hzb)).trans e3', (hb5.cell (p := ⟨V, 1, none⟩) (Nat.lt_of_lt_of_le hvla hzb)).trans v1', (hb5.cell (p := ⟨V, 2, none⟩) (Nat.lt_of_lt_of_le hvla hzb)).trans v2'⟩)
                (first | (go_at_call 21; with_reducible refine (take_any L A4 c4 t (t + lg) wd _ hSi.drew hml).mono ?_; intro e w5 hr; unfold RetPair at hr; obtain ⟨A5, c5, he, h5, hb5⟩ := hr; subst he; replace hb5 := below_undrew hb5))
              go_wp2_with fail
              rw [HE.out] at h5
              go_roundw
              case rel => exact ⟨k + 1, A5, c5, by omega, by go_num, by rw [HE.out], h5, (hPa.below hb hgla).below hb5 (by omega), (hBa.trans (hb.mono (Nat.le_of_lt hgla))).trans (hb5.mono (by omega)), (h3a.below hb).below hb5, (h6a.below hb).below hb5⟩
              case measure => simp [intOf] <;> omega
      · obtain rfl : k = (rankL p).length := by omega
        go_wp2_with fail
        refine (HPS.out _).mono ?_
        rintro e w5 ⟨rfl, hb5⟩
        go_wp2_with fail
        go_ret
        exact ⟨rfl, below_go hB hb5⟩
end Go.Proofs.Ytifmdkcpbajdcaa

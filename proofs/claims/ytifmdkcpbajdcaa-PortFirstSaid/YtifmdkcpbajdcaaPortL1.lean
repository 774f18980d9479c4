/- Walks: whoever comes in by plan finds room, given that port answers at all. -/
import Derived.Test.YtifmdkcpbajdcaaPortsDef
namespace Go.Proofs.Ytifmdkcpbajdcaa
open Go.RowKit Go.Proofs Plain

set_option maxRecDepth 100000 in
set_option maxHeartbeats 20000000 in
theorem portRoom_walk (hports : PortsOk) (p : Port) (A : Option Addr) (c : Nat) (w : World) (hp : PWf p) (hin : InP w p A) :
    Calls Try.prog 9 #[.agg (portA p A c)] w fun e w' => e = .returned (.bool true) ∧ Below w.heap.size w w' := by
  have HPS := Lib.hid hports
  clear hports
  cases hg : goodP p with
  | false =>
    have HG := Lib.hid hg
    clear hg
    simp only [portA]
    go_enter Try.func9, Try.ntmps9
    have hP0 : PortAt (w.alloc (.cells (portA p A c) 46)) w.heap.size p A c := PortAt.new w p A c
    have hB0 : Below w.heap.size w (w.alloc (.cells (portA p A c) 46)) := (Below.refl _ _).alloc (Nat.le_refl _) _
    simp only [portA] at hP0 hB0
    go_wp2_with (first
      | (refine wpList_load_port rfl rfl (by first | rfl | simp [Act.eval, Act.put]) hP0 ?_))
    refine (good_port p A c _ hp (Sl.below hin hB0)).mono ?_
    rintro e w1 ⟨rfl, hb1⟩
    rw [HG.out]
    go_wp2_with fail
    refine (HPS.out _).mono ?_
    rintro e w2 ⟨rfl, hb2⟩
    go_wp2_with fail
    go_ret
    exact ⟨rfl, below_go (below_go hB0 hb1) hb2⟩
  | true =>
    have hgood := (goodP_iff hp.four).1 hg
    have HG := Lib.hid hg
    have HGD := Lib.hid hgood
    have hn := hgood.now
    have hlen := hgood.len
    have HBT := Lib.hid ((base_good hgood.toFair).1.2 hgood.room)
    have HPL := Lib.hid (plan_len hgood)
    clear hg hgood
    obtain ⟨n0, n1⟩ := hn
    simp only [portA]
    go_enter Try.func9, Try.ntmps9
    have hP0 : PortAt (w.alloc (.cells (portA p A c) 46)) w.heap.size p A c := PortAt.new w p A c
    have hB0 : Below w.heap.size w (w.alloc (.cells (portA p A c) 46)) := (Below.refl _ _).alloc (Nat.le_refl _) _
    simp only [portA] at hP0 hB0
    go_wp2_with (refine wpList_load_port rfl rfl (by first | rfl | simp [Act.eval, Act.put]) hP0 ?_)
    refine (good_port p A c _ hp (Sl.below hin hB0)).mono ?_
    rintro e w1 ⟨rfl, hb1⟩
    rw [HG.out]
    have hP1 := PortAt.below (p := p) (A := A) (c := c) hP0 hb1 (by simp)
    have hB1 := below_go hB0 hb1
    go_wp2_with (refine wpList_load_port rfl rfl (by first | rfl | simp [Act.eval, Act.put]) hP1 ?_)
    refine (base_fr p A c _ HGD.out.toFair (Sl.below hin hB1)).mono ?_
    rintro e w2 ⟨A2, c2, rfl, h2, hb2, hr2⟩
    rw [HBT.out]
    have hP2 := hP1.below hb2 hP1.lt
    have hB2 := below_go hB1 hb2
    go_wp2_with (refine wpList_load_port rfl rfl (by first | rfl | simp [Act.eval, Act.put]) hP2 ?_)
    refine (plan_any p A c _ HGD.out (Sl.below hin hB2)).mono ?_
    rintro e w3 ⟨A3, c3, rfl, h3, hb3, hr3⟩
    have hP3 := hP2.below hb3 hP2.lt
    have hB3 := below_go hB2 hb3
    have h23 := h2.below hb3
    have q1 := hP3.ships
    clear hP0 hB0 hP1 hB1 hP2 hB2 hb1 hb2 hb3 h2 hr2 hr3
    rw [HPL.out]
    rw [HPL.out] at h3
    go_wp2_with fail
    go_loopw [32, 3] (fun i b wr => ∃ (k : Nat) (A4 : Option Addr) (c4 : Nat), k ≤ p.ships.length ∧ i = .int .i64 k ∧ b = .slice A4 (roomL p (thePlan p) k).length c4 ∧ Sl wr 2 A4 (roomL p (thePlan p) k).length (stepCells (roomL p (thePlan p) k)) ∧ PortAt wr w.heap.size p A c ∧ Below w.heap.size w wr ∧ Sl wr 1 A3 p.ships.length ((thePlan p).map (Value.int .i64))) (fun i _ _ => p.ships.length - (intOf i).toNat)
    case atStart => exact ⟨0, A2, c2, Nat.zero_le _, rfl, rfl, h23, hP3, hB3, h3⟩
    case round =>
      clear hP3 hB3 h23 h3 q1
      obtain ⟨k, A4, c4, hk, rfl, rfl, hS, hP, hB, h3⟩ := hrel
      have q0 := hP.now
      have q1 := hP.ships
      have hglt := hP.lt
      by_cases hlt : k < p.ships.length
      · obtain ⟨b3, off3, hA3, hbl3, hc3⟩ := ints_at (l := thePlan p) (by rw [HPL.out]; exact h3) (by rw [HPL.out]; omega)
        subst hA3
        have e3 := hc3 k (by rw [HPL.out]; exact hlt)
        clear hc3
        obtain ⟨bs, offs, hA, hbl, hcells⟩ := ships_at (Sl.below hin hB) (by omega)
        subst hA
        obtain ⟨d1, d2, d3, d4, d5, d6⟩ := hcells k hlt
        clear hcells
        have hd : (thePlan p).getD k 0 = (thePlan p).getD k (-1) := by
          have hk2 : k < (thePlan p).length := by rw [HPL.out]; exact hlt
          rw [List.getD_eq_getElem?_getD, List.getD_eq_getElem?_getD, List.getElem?_eq_getElem hk2]; rfl
        rw [hd] at e3
        clear hd
        have hml := good_max (room_takes HGD.out (thePlan_is HGD.out) k hk).1
        have hso := (HGD.out.ship k hlt).1
        have hwd := hso.wide
        have hlg := hso.long
        have HST := Lib.hid (@room_still p (thePlan p) k)
        have HOK := Lib.hid (@room_ok p (thePlan p) k HGD.out (thePlan_is HGD.out) hlt)
        have HWT := Lib.hid (@plan_waits p (thePlan p) k HGD.out (thePlan_is HGD.out) hlt)
        clear hso
        generalize (thePlan p).getD k (-1) = t at *
        generalize roomL p (thePlan p) k = L at *
        change wr.cell? _ = some (.int .i64 (p.ship k).state) at d1
        change wr.cell? _ = some (.int .i64 (p.ship k).wide) at d2
        change wr.cell? _ = some (.int .i64 (p.ship k).long) at d3
        change wr.cell? _ = some (.int .i64 (p.ship k).cls) at d4
        change wr.cell? _ = some (.int .i64 (p.ship k).since) at d5
        change wr.cell? _ = some (.int .i64 (p.ship k).queued) at d6
        generalize p.ship k = x at *
        obtain ⟨sst, wd, lg, cl, si, qu⟩ := x
        dsimp only at *
        by_cases ht : t < 0
        · have HE := Lib.hid (HST.out ht)
          clear HST HOK HWT
          go_wp2_with fail
          go_roundw
          case rel => exact ⟨k + 1, A4, c4, by omega, by go_num, by rw [HE.out], by rw [HE.out]; exact hS.alloc _, hP.alloc _, hB.alloc hB.size _, h3.alloc _⟩
          case measure => simp [intOf] <;> omega
        · have HE := Lib.hid (HOK.out (by omega))
          obtain ⟨s1, s2, s3⟩ := HWT.out (by omega)
          subst s1
          have dt : decide (t < 0) = false := by simpa using ht
          have du : decide (t < p.now) = false := by simp; omega
          have dv : decide (300 < t + lg) = false := by simp; omega
          clear HST HOK HWT
          go_wp2_with fail
          refine (take_any L A4 c4 t (t + lg) wd _ (hS.alloc _) hml).mono ?_
          rintro e w5 ⟨A5, c5, he, h5, hb5⟩
          rw [HE.out] at he
          obtain rfl := he
          rw [HE.out] at h5
          go_wp2_with fail
          go_roundw
          case rel => exact ⟨k + 1, A5, c5, by omega, by go_num, rfl, h5, (hP.alloc _).below hb5 (by simp; omega), below_go (hB.alloc hB.size _) hb5, (h3.alloc _).below hb5⟩
          case measure => simp [intOf] <;> omega
      · obtain rfl : k = p.ships.length := by omega
        go_wp2_with fail
        refine (HPS.out _).mono ?_
        rintro e w5 ⟨rfl, hb5⟩
        go_wp2_with fail
        go_ret
        exact ⟨rfl, below_go hB hb5⟩
end Go.Proofs.Ytifmdkcpbajdcaa

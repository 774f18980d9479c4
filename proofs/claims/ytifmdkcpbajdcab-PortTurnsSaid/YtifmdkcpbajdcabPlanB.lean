/- Walks: a plan from the beginning, of a good port, given what Ranked answers. -/
import Derived.Test.YtifmdkcpbajdcabNats
import Derived.Test.YtifmdkcpbajdcabRankQ
set_option linter.unusedVariables false
set_option linter.unusedSimpArgs false
namespace Go.Proofs.Ytifmdkcpbajdcab
open Go.RowKit Go.Proofs Plain

set_option maxRecDepth 100000 in
set_option maxHeartbeats 20000000 in
theorem plan_walk (p : Port) (A : Option Addr) (c : Nat) (w : World) (hg : PGood p) (hin : InP w p A) (hrk : ∀ w', InP w' p A → RanksAt w' p A c) :
    Calls Try.prog 10 #[.agg (portA p A c)] w (RetInts (thePlan p) w) := by
  have hn := hg.now
  have hlen := hg.len
  obtain ⟨n0, n1⟩ := hn
  have HG := Lib.hid hg
  have hbt := (base_good hg.toFair).1.2 hg.room
  have HBT := Lib.hid hbt
  have HF0 := Lib.hid (fill_zero p.ships.length)
  have hrl := rank_len p
  have HRK := Lib.hid hrk
  clear hbt hg hrk
  simp only [portA]
  go_enter Try.func10, Try.ntmps10
  go_wp2_with (refine wpList_make_ints (n := p.ships.length) rfl rfl rfl rfl (by omega) ?_)
  have hP0 : PortAt (w.alloc (.cells (portA p A c) 27)) w.heap.size p A c := PortAt.new w p A c
  have hI0 := Ints.new (w.alloc (.cells (portA p A c) 27)) (List.replicate p.ships.length 0)
  have hB0 : Below w.heap.size w ((w.alloc (.cells (portA p A c) 27)).alloc (.cells (arr (List.replicate p.ships.length 0)) 3)) := ((Below.refl _ _).alloc (Nat.le_refl _) _).alloc (by simp) _
  have hz0 : (w.alloc (.cells (portA p A c) 27)).heap.size = w.heap.size + 1 := by simp
  rw [hz0] at hI0
  simp only [portA] at hP0 hI0 hB0
  have hP1 := PortAt.alloc (p := p) (A := A) (c := c) hP0 (.cells (arr (List.replicate p.ships.length 0)) 3)
  rw [← HF0.out] at hI0
  go_loopw [17] (fun i wr => ∃ k : Nat, k ≤ p.ships.length ∧ i = .int .i64 k ∧ Ints wr (w.heap.size + 1) (fillL p.ships.length k) ∧ PortAt wr w.heap.size p A c ∧ Below w.heap.size w wr) (fun i _ => p.ships.length - (intOf i).toNat)
  case atStart => exact ⟨0, Nat.zero_le _, rfl, by rw [HF0.out] at hI0 ⊢; exact hI0, hP1, hB0⟩
  case round =>
    clear hP0 hI0 hB0 hP1 hz0
    obtain ⟨k, hk, rfl, hI, hP, hB⟩ := hrel
    have q0 := hP.now
    have q1 := hP.ships
    have hglt := hP.lt
    have hilt := hI.lt
    by_cases hlt : k < p.ships.length
    · have hc := hI.cell k (by rw [fill_len hk]; exact hlt)
      have hf := hI.frozen k
      have HN := Lib.hid (fill_next hlt)
      go_wp2_with fail
      go_roundw
      case rel => exact ⟨k + 1, by omega, by go_num, by have := hI.set k (-1); rw [HN.out] at this; exact this, by unfold PortAt; exact (Below.heap_setCell wr _ _ _ (by simp)).trans hP, hB.setCell (by simp) _⟩
      case measure => simp [intOf] <;> omega
    · obtain rfl : k = p.ships.length := by omega
      rw [fill_all] at hI
      go_wp2_with (first
        | (refine wpList_load_port rfl rfl (by first | rfl | simp [Act.eval, Act.put]) hP ?_)
        | (go_at_call 29; refine (base_fr p A c _ HG.out.toFair (Sl.below hin hB)).mono ?_; rintro e w2 ⟨A2, c2, rfl, h2, hb2, hr2⟩; rw [HBT.out]; have hP2 := hP.below hb2 hP.lt)
        | (refine wpList_load_port rfl rfl (by first | rfl | simp [Act.eval, Act.put]) hP2 ?_)
        | (go_at_call 31; refine (HRK.out _ (Sl.below (Sl.below hin hB) hb2)).mono ?_; rintro e w3 ⟨A3, c3, rfl, h3, hb3, hr3⟩))
      have hP3 := hP2.below hb3 hP2.lt
      have hB3 := below_go (below_go hB hb2) hb3
      have hI3 : Ints w3 (w.heap.size + 1) (noneL p.ships.length) := (hI.below hb2 hilt).below hb3 (by have := hb2.size; omega)
      have h23 := h2.below hb3
      have hr23 : Fr (w.heap.size + 1 + 1) A2 := hr2.mono hilt
      have hr33 : Fr (w.heap.size + 1 + 1) A3 := hr3.mono (by have := hb2.size; omega)
      rw [natsI_len] at h3 ⊢
      clear hI hP hP2 q0 q1 hglt hilt h2 hB hb2 hr2 hr3 hb3
      go_loopw [35, 5] (fun i b wr => ∃ (k : Nat) (A4 : Option Addr) (c4 : Nat), k ≤ (rankL p).length ∧ i = .int .i64 k ∧ b = .slice A4 (planAt p (rankL p) k).1.length c4 ∧ Sl wr 2 A4 (planAt p (rankL p) k).1.length (stepCells (planAt p (rankL p) k).1) ∧ Ints wr (w.heap.size + 1) (planAt p (rankL p) k).2 ∧ PortAt wr w.heap.size p A c ∧ Below w.heap.size w wr ∧ Fr (w.heap.size + 1 + 1) A4 ∧ Sl wr 1 A3 (rankL p).length ((natsI (rankL p)).map (Value.int .i64))) (fun i _ _ => (rankL p).length - (intOf i).toNat)
      case atStart => exact ⟨0, A2, c2, Nat.zero_le _, rfl, rfl, h23, hI3, hP3, hB3, hr23, h3⟩
      case round =>
        clear hP3 hI3 hB3 h23 h3 hr23
        obtain ⟨k, A4, c4, hk, rfl, rfl, hS, hI, hP, hB, hR, h3⟩ := hrel
        have q0 := hP.now
        have q1 := hP.ships
        have hglt := hP.lt
        have hilt := hI.lt
        by_cases hlt : k < (rankL p).length
        · obtain ⟨b3, off3, hA3, hbl3, hc3⟩ := ints_at (l := natsI (rankL p)) (by rw [natsI_len]; exact h3) (by rw [natsI_len]; omega)
          subst hA3
          have e3 := hc3 k (by rw [natsI_len]; exact hlt)
          rw [natsI_get _ _ hlt] at e3
          clear hc3
          obtain ⟨i0, i1⟩ := rank_get (rankL_is HG.out) hlt
          have HST := Lib.hid (show planAt p (rankL p) (k + 1) = planStep p (planAt p (rankL p) k) ((rankL p).getD k 0) from rfl)
          have hgd := planAt_good HG.out (rankL p) k
          have hml := good_max hgd
          have HFT := Lib.hid (planAt_fits HG.out hgd i0)
          have HNO := Lib.hid (@planStep_no p (planAt p (rankL p) k) ((rankL p).getD k 0))
          have HYES := Lib.hid (fun t : Int => @planStep_yes p (planAt p (rankL p) k) ((rankL p).getD k 0) t)
          obtain ⟨bs, offs, hA, hbl, hcells⟩ := ships_at (Sl.below hin hB) (by omega)
          subst hA
          have hso := (HG.out.ship _ i0).1
          have hw := hso.wide
          have hlg := hso.long
          have hil := planAt_len p (rankL p) k
          clear hgd hso
          generalize (rankL p).getD k 0 = j at *
          obtain ⟨d1, d2, d3, d4, d5, d6⟩ := hcells j i0
          clear hcells
          have hci := hI.cell j (by rw [hil]; exact i0)
          have hfi := hI.frozen j
          generalize planAt p (rankL p) k = st at *
          obtain ⟨l, out⟩ := st
          dsimp only at HFT HNO HYES hml hS hI hil hci
          change wr.cell? _ = some (.int .i64 (p.ship j).state) at d1
          change wr.cell? _ = some (.int .i64 (p.ship j).wide) at d2
          change wr.cell? _ = some (.int .i64 (p.ship j).long) at d3
          change wr.cell? _ = some (.int .i64 (p.ship j).cls) at d4
          change wr.cell? _ = some (.int .i64 (p.ship j).since) at d5
          change wr.cell? _ = some (.int .i64 (p.ship j).queued) at d6
          generalize p.ship j = x at *
          obtain ⟨sst, wd, lg, cl, si, qu⟩ := x
          dsimp only at *
          obtain ⟨t, ht⟩ : ∃ t, fitL l (max 0 p.now) lg wd = t := ⟨_, rfl⟩
          rw [ht] at HFT HNO HYES
          have HT := Lib.hid ht
          clear ht
          subst i1
          rcases HFT.out with e | ⟨e, f⟩
          · subst e
            have HE := Lib.hid (HST.out.trans (HNO.out (by omega)))
            clear HNO HYES HST HFT
            go_wp2_with (go_at_call 32; refine (fit_any l A4 c4 (max 0 p.now) lg wd _ (hS.alloc _) hml).mono ?_; rintro e w5 ⟨rfl, hb5⟩; rw [HT.out])
            have hbb := below_go (hB.alloc hB.size _) hb5
            go_roundw
            case rel => exact ⟨k + 1, A4, c4, by omega, by go_num, by rw [HE.out], by rw [HE.out]; exact (hS.alloc _).below hb5, by rw [HE.out]; exact (hI.alloc _).below hb5 (by simp; omega), (hP.alloc _).below hb5 (by simp; omega), hbb, hR, (h3.alloc _).below hb5⟩
            case measure => simp [intOf] <;> omega
          · have HE := Lib.hid (HST.out.trans (HYES.out t rfl e))
            clear HNO HYES HST HFT
            go_wp2_with fail
            refine (fit_any l A4 c4 (max 0 p.now) lg wd _ (hS.alloc _) hml).mono ?_
            rintro e5 w5 ⟨rfl, hb5⟩
            rw [HT.out]
            have hI5 := (hI.alloc (.cells (shipV ⟨1, wd, lg, cl, si, qu⟩) 38)).below hb5 (by simp; omega)
            have hc5 := hI5.cell j (by rw [hil]; exact i0)
            have hf5 := hI5.frozen j
            have hx5 := ship_kept (s := ⟨1, wd, lg, cl, si, qu⟩) (j := j) (t := t) hilt hb5
            have hx51 := hx5 1 (by omega)
            have hx52 := hx5 2 (by omega)
            simp only [shipV] at hx51 hx52
            clear hx5
            have hS5 := (hS.alloc (.cells (shipV ⟨1, wd, lg, cl, si, qu⟩) 38)).below hb5
            have hP5 := (hP.alloc (.cells (shipV ⟨1, wd, lg, cl, si, qu⟩) 38)).below hb5 (by simp; omega)
            have hB5 := below_go (hB.alloc hB.size _) hb5
            have h35 := (h3.alloc (.cells (shipV ⟨1, wd, lg, cl, si, qu⟩) 38)).below hb5
            have hS6 := hS5.beside (g := w.heap.size + 1) (j := j) hR (.int .i64 t)
            have h36 := h35.beside (g := w.heap.size + 1) (j := j) hr33 (.int .i64 t)
            have hI6 := hI5.set j t
            have hP6 : PortAt (w5.setCell ⟨w.heap.size + 1, j, none⟩ (.int .i64 t)) w.heap.size p (some ⟨bs, offs, none⟩) c := (Below.heap_setCell w5 _ _ _ (by simp)).trans hP5
            have hB6 := hB5.setCell (p := ⟨w.heap.size + 1, j, none⟩) (by simp) (.int .i64 t)
            go_wp2_with fail
            refine (take_fr l A4 c4 t (t + lg) wd _ hS6 hml).mono ?_
            rintro e6 w6 ⟨A7, c7, rfl, h7, hb7, hr7⟩
            have hB7 := below_go hB6 hb7
            have hsz := hB6.size
            go_wp2_with fail
            go_roundw
            case rel => exact ⟨k + 1, A7, c7, by omega, by go_num, by rw [HE.out], by rw [HE.out]; exact h7, by rw [HE.out]; exact hI6.below hb7 hI6.lt, hP6.below hb7 hP6.lt, hB7, fr_or hr7 hR hI6.lt, h36.below hb7⟩
            case measure => simp [intOf] <;> omega
        · obtain rfl : k = (rankL p).length := by omega
          have HA := Lib.hid ((planAt_all HBT.out).trans (planL_the HG.out (rankL_is HG.out)))
          have HL := Lib.hid (show (thePlan p).length = p.ships.length from plan_len HG.out)
          go_wp2_with fail
          go_ret
          rw [HA.out] at hI
          exact ⟨some ⟨w.heap.size + 1, 0, none⟩, p.ships.length, ret_sl HL.out.symm, hI.sl, hB, Fr.some (by omega)⟩
end Go.Proofs.Ytifmdkcpbajdcab

/- Contracts: a plan from the beginning, of a good port. -/
namespace Go.Proofs.Ytifmdkcpbajdcab
open Go.RowKit Go.Proofs Plain

theorem plan_any (p : Port) (A : Option Addr) (c : Nat) (w : World) (hg : PGood p) (hin : InP w p A) :
    Calls Try.prog 10 #[.agg (portA p A c)] w (RetInts (thePlan p) w) :=
  plan_walk p A c w hg hin fun w' h => ranked_any p A c w' hg h
end Go.Proofs.Ytifmdkcpbajdcab

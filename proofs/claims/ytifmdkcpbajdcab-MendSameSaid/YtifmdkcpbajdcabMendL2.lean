/- Walks: mended is made anew. -/
import Derived.Test.YtifmdkcpbajdcabMendsW
import Derived.Test.YtifmdkcpbajdcabTellAll
import Derived.Test.YtifmdkcpbajdcabBox
import Derived.Deep.RegionHeld3
namespace Go.Proofs.Ytifmdkcpbajdcab
open Go.RowKit Go.Proofs Plain

/-- What mend's Plan answers of two good ports. -/
theorem mend_two (p q : Port) (A B : Option Addr) (c d : Nat) (Ap : Option Addr) (cp : Nat) (w : World) (hp : PGood p) (hq : PGood q) (hin : InP w p A) (hin2 : InP w q B) (hpl : Sl w 1 Ap (thePlan p).length ((thePlan p).map (Value.int .i64))) :
    Calls Try.prog 15 #[.agg (portA p A c), .agg (portA q B d), .slice Ap (thePlan p).length cp] w (RetMend (thePlan q, (mendL p q (thePlan p) (rankL q)).2) w) := by
  have := mend_walk p q A B c d (thePlan p) Ap cp w hp hq (thePlan_is hp) hin hin2 hpl fun w' h => ranked_any q B d w' hq h
  have h1 := (mend_spec hp hq (thePlan_is hp) (rankL_is hq)).1
  rw [planL_the hq (rankL_is hq)] at h1
  rwa [Prod.ext (x := mendL p q (thePlan p) (rankL q)) (y := (thePlan q, (mendL p q (thePlan p) (rankL q)).2)) h1 rfl] at this

set_option maxRecDepth 100000 in
set_option maxHeartbeats 20000000 in
theorem mendSame_walk (hmends : MendsOk) (p : Port) (A : Option Addr) (c : Nat) (o : Order) (w : World) (hp : PWf p) (hin : InP w p A) :
    Calls Try.prog 5 #[.agg (portA p A c), .agg (orderA o)] w fun e w' => e = .returned (.bool true) ∧ Below w.heap.size w w' := by
  have HPS := Lib.hid hmends
  clear hmends
  have hG := fun w hin => good_port p A c w hp hin
  obtain ⟨o1, o2, o3, o4⟩ := o
  cases hg : goodP p with
  | false =>
    rw [hg] at hG
    clear hg
    obtain ⟨v0, v1, v2, v3, v4, v5, v6, v7, v8, v9, v10, v11, v12, v13, v14, v15, hv⟩ := port_vs p A c
    rw [hv] at hG ⊢
    have HG := Lib.hid hG
    clear hG hv
    simp only [orderA]
    go_enter Try.func5, Try.ntmps5
    have hP0 := (BoxAt.new w #[v0, v1, v2, v3, v4, v5, v6, v7, v8, v9, v10, v11, v12, v13, v14, v15]).alloc (.cells #[.int .i64 o1, .int .i64 o2, .int .i64 o3, .int .i64 o4] 45)
    have hB0 : Below w.heap.size w ((w.alloc (.cells #[v0, v1, v2, v3, v4, v5, v6, v7, v8, v9, v10, v11, v12, v13, v14, v15] 27)).alloc (.cells #[.int .i64 o1, .int .i64 o2, .int .i64 o3, .int .i64 o4] 45)) := ((Below.refl _ _).alloc (Nat.le_refl _) _).alloc (by simp) _
    go_wp2_with (refine wpList_load_box rfl rfl (by first | rfl | simp [Act.eval, Act.put]) hP0 rfl ?_)
    refine (HG.out _ (Sl.below hin hB0)).mono ?_
    rintro e w1 ⟨rfl, hb1⟩
    go_wp2_with fail
    refine (HPS.out _).mono ?_
    rintro e w2 ⟨rfl, hb2⟩
    go_wp2_with fail
    go_ret
    exact ⟨rfl, below_go (below_go hB0 hb1) hb2⟩
  | true =>
    rw [hg] at hG
    have hgood := (goodP_iff hp.four).1 hg
    have hT := fun w hin => tell_good_walk p A c ⟨o1, o2, o3, o4⟩ w hgood hin (tellOk_all hgood _)
    have hPP := fun w hin => plan_any p A c w hgood hin
    have HGD := Lib.hid hgood
    have hok := fun q n (h : tellL p ⟨o1, o2, o3, o4⟩ = (q, n, 0)) => tell_ok_good hgood h
    generalize tellL p ⟨o1, o2, o3, o4⟩ = r at *
    obtain ⟨q, n, er⟩ := r
    have hMM := fun B d Ap cp w hq hi1 hi2 hpl => mend_two p q A B c d Ap cp w hgood hq hi1 hi2 hpl
    have HPQ := Lib.hid (fun B d w hq hi => plan_any q B d w hq hi)
    clear hg hgood
    obtain ⟨v0, v1, v2, v3, v4, v5, v6, v7, v8, v9, v10, v11, v12, v13, v14, v15, hv⟩ := port_vs p A c
    rw [hv] at hG hT hPP ⊢
    simp only [hv] at hMM
    simp only [orderA] at hT ⊢
    have HG := Lib.hid hG
    have HT := Lib.hid hT
    have HPP := Lib.hid hPP
    have HMM := Lib.hid hMM
    have HOK := Lib.hid hok
    clear hG hv hT hPP hMM hok
    go_enter Try.func5, Try.ntmps5
    have hP0 := (BoxAt.new w #[v0, v1, v2, v3, v4, v5, v6, v7, v8, v9, v10, v11, v12, v13, v14, v15]).alloc (.cells #[.int .i64 o1, .int .i64 o2, .int .i64 o3, .int .i64 o4] 45)
    have hO0 := heap_alloc_new (w.alloc (.cells #[v0, v1, v2, v3, v4, v5, v6, v7, v8, v9, v10, v11, v12, v13, v14, v15] 27)) (.cells #[.int .i64 o1, .int .i64 o2, .int .i64 o3, .int .i64 o4] 45)
    have hz0 : (w.alloc (.cells #[v0, v1, v2, v3, v4, v5, v6, v7, v8, v9, v10, v11, v12, v13, v14, v15] 27)).heap.size = w.heap.size + 1 := by simp
    rw [hz0] at hO0
    have hB0 : Below w.heap.size w ((w.alloc (.cells #[v0, v1, v2, v3, v4, v5, v6, v7, v8, v9, v10, v11, v12, v13, v14, v15] 27)).alloc (.cells #[.int .i64 o1, .int .i64 o2, .int .i64 o3, .int .i64 o4] 45)) := ((Below.refl _ _).alloc (Nat.le_refl _) _).alloc (by simp) _
    go_wp2_with (refine wpList_load_box rfl rfl (by first | rfl | simp [Act.eval, Act.put]) hP0 rfl ?_)
    refine (HG.out _ (Sl.below hin hB0)).mono ?_
    rintro e w1 ⟨rfl, hb1⟩
    have hP1 := BoxAt.below hP0 hb1 (by simp <;> omega)
    have hB1 := below_go hB0 hb1
    have hO1 := (hb1.block (w.heap.size + 1) (by simp)).trans hO0
    have x0 : w1.cell? ⟨w.heap.size + 1, 0, none⟩ = some (.int .i64 o1) := cell_of_row _ _ 0 _ _ _ hO1
    have x1 : w1.cell? ⟨w.heap.size + 1, 1, none⟩ = some (.int .i64 o2) := cell_of_row _ _ 1 _ _ _ hO1
    have x2 : w1.cell? ⟨w.heap.size + 1, 2, none⟩ = some (.int .i64 o3) := cell_of_row _ _ 2 _ _ _ hO1
    have x3 : w1.cell? ⟨w.heap.size + 1, 3, none⟩ = some (.int .i64 o4) := cell_of_row _ _ 3 _ _ _ hO1
    clear hP0 hB0 hb1 hO0 hO1 hz0
    go_wp2_with (refine wpList_load_box rfl rfl (by first | rfl | simp [Act.eval, Act.put]) hP1 rfl ?_)
    refine (HT.out _ (Sl.below hin hB1)).mono ?_
    rintro e w2 ⟨Aq, cq, rfl, hiq, hb2⟩
    dsimp only at hiq ⊢
    have hMM := HMM.out Aq cq
    have hPQ := HPQ.out Aq cq
    simp only [portA] at hMM hPQ ⊢
    have HMM := Lib.hid hMM
    have HPQ := Lib.hid hPQ
    clear hMM hPQ x0 x1 x2 x3
    have hP2 := (BoxAt.below hP1 hb2 hP1.lt).alloc (.cells #[.int .i64 q.now, .slice Aq q.ships.length cq, .int .i64 (q.keep 0).wide, .int .i64 (q.keep 0).fr, .int .i64 (q.keep 0).to, .int .i64 (q.keep 1).wide, .int .i64 (q.keep 1).fr, .int .i64 (q.keep 1).to, .int .i64 (q.keep 2).wide, .int .i64 (q.keep 2).fr, .int .i64 (q.keep 2).to, .int .i64 (q.keep 3).wide, .int .i64 (q.keep 3).fr, .int .i64 (q.keep 3).to, .int .i64 q.shut, .int .i64 q.next] 27)
    have hQ2 := BoxAt.new w2 #[.int .i64 q.now, .slice Aq q.ships.length cq, .int .i64 (q.keep 0).wide, .int .i64 (q.keep 0).fr, .int .i64 (q.keep 0).to, .int .i64 (q.keep 1).wide, .int .i64 (q.keep 1).fr, .int .i64 (q.keep 1).to, .int .i64 (q.keep 2).wide, .int .i64 (q.keep 2).fr, .int .i64 (q.keep 2).to, .int .i64 (q.keep 3).wide, .int .i64 (q.keep 3).fr, .int .i64 (q.keep 3).to, .int .i64 q.shut, .int .i64 q.next]
    have hB2 := (below_go hB1 hb2).alloc (below_go hB1 hb2).size (.cells #[.int .i64 q.now, .slice Aq q.ships.length cq, .int .i64 (q.keep 0).wide, .int .i64 (q.keep 0).fr, .int .i64 (q.keep 0).to, .int .i64 (q.keep 1).wide, .int .i64 (q.keep 1).fr, .int .i64 (q.keep 1).to, .int .i64 (q.keep 2).wide, .int .i64 (q.keep 2).fr, .int .i64 (q.keep 2).to, .int .i64 (q.keep 3).wide, .int .i64 (q.keep 3).fr, .int .i64 (q.keep 3).to, .int .i64 q.shut, .int .i64 q.next] 27)
    have hiq2 : InP (w2.alloc (.cells #[.int .i64 q.now, .slice Aq q.ships.length cq, .int .i64 (q.keep 0).wide, .int .i64 (q.keep 0).fr, .int .i64 (q.keep 0).to, .int .i64 (q.keep 1).wide, .int .i64 (q.keep 1).fr, .int .i64 (q.keep 1).to, .int .i64 (q.keep 2).wide, .int .i64 (q.keep 2).fr, .int .i64 (q.keep 2).to, .int .i64 (q.keep 3).wide, .int .i64 (q.keep 3).fr, .int .i64 (q.keep 3).to, .int .i64 q.shut, .int .i64 q.next] 27)) q Aq := Sl.alloc hiq _
    clear hP1 hB1 hb2 hiq
    by_cases he : er = 0
    · subst he
      have hq := HOK.out q n rfl
      have HGQ := Lib.hid hq
      have hlen := hq.len
      have HPL := Lib.hid (plan_len hq)
      clear hq
      go_wp2_with fail
      obtain ⟨W, hW⟩ : ∃ W, w2.alloc (.cells #[.int .i64 q.now, .slice Aq q.ships.length cq, .int .i64 (q.keep 0).wide, .int .i64 (q.keep 0).fr, .int .i64 (q.keep 0).to, .int .i64 (q.keep 1).wide, .int .i64 (q.keep 1).fr, .int .i64 (q.keep 1).to, .int .i64 (q.keep 2).wide, .int .i64 (q.keep 2).fr, .int .i64 (q.keep 2).to, .int .i64 (q.keep 3).wide, .int .i64 (q.keep 3).fr, .int .i64 (q.keep 3).to, .int .i64 q.shut, .int .i64 q.next] 27) = W := ⟨_, rfl⟩
      rw [hW] at hP2 hQ2 hB2 hiq2
      try rw [hW]
      obtain ⟨gq, hgq⟩ : ∃ gq, w2.heap.size = gq := ⟨_, rfl⟩
      rw [hgq] at hQ2
      try rw [hgq]
      clear hW hgq
      go_cut [8, 9] (fun x8 x9 wc => ∃ A3 c3 N, x8 = .slice A3 (thePlan q).length c3 ∧ x9 = .int .i64 N ∧ Sl wc 1 A3 (thePlan q).length ((thePlan q).map (Value.int .i64)) ∧ BoxAt wc gq #[.int .i64 q.now, .slice Aq q.ships.length cq, .int .i64 (q.keep 0).wide, .int .i64 (q.keep 0).fr, .int .i64 (q.keep 0).to, .int .i64 (q.keep 1).wide, .int .i64 (q.keep 1).fr, .int .i64 (q.keep 1).to, .int .i64 (q.keep 2).wide, .int .i64 (q.keep 2).fr, .int .i64 (q.keep 2).to, .int .i64 (q.keep 3).wide, .int .i64 (q.keep 3).fr, .int .i64 (q.keep 3).to, .int .i64 q.shut, .int .i64 q.next] ∧ InP wc q Aq ∧ Below w.heap.size w wc)
      case first => as_aux_lemma =>
        have hz := BoxAt.lt hP2
        have hzq := BoxAt.lt hQ2
        have hPd : BoxAt W.drew w.heap.size #[v0, v1, v2, v3, v4, v5, v6, v7, v8, v9, v10, v11, v12, v13, v14, v15] := hP2
        have hQd : BoxAt W.drew gq #[.int .i64 q.now, .slice Aq q.ships.length cq, .int .i64 (q.keep 0).wide, .int .i64 (q.keep 0).fr, .int .i64 (q.keep 0).to, .int .i64 (q.keep 1).wide, .int .i64 (q.keep 1).fr, .int .i64 (q.keep 1).to, .int .i64 (q.keep 2).wide, .int .i64 (q.keep 2).fr, .int .i64 (q.keep 2).to, .int .i64 (q.keep 3).wide, .int .i64 (q.keep 3).fr, .int .i64 (q.keep 3).to, .int .i64 q.shut, .int .i64 q.next] := hQ2
        go_region_held3 (fun w' => (w'.cell? ⟨w.heap.size, 0, none⟩ = some v0 ∧ w'.cell? ⟨w.heap.size, 1, none⟩ = some v1 ∧ w'.cell? ⟨w.heap.size, 2, none⟩ = some v2 ∧ w'.cell? ⟨w.heap.size, 3, none⟩ = some v3 ∧ w'.cell? ⟨w.heap.size, 4, none⟩ = some v4 ∧ w'.cell? ⟨w.heap.size, 5, none⟩ = some v5 ∧ w'.cell? ⟨w.heap.size, 6, none⟩ = some v6 ∧ w'.cell? ⟨w.heap.size, 7, none⟩ = some v7 ∧ w'.cell? ⟨w.heap.size, 8, none⟩ = some v8 ∧ w'.cell? ⟨w.heap.size, 9, none⟩ = some v9 ∧ w'.cell? ⟨w.heap.size, 10, none⟩ = some v10 ∧ w'.cell? ⟨w.heap.size, 11, none⟩ = some v11 ∧ w'.cell? ⟨w.heap.size, 12, none⟩ = some v12 ∧ w'.cell? ⟨w.heap.size, 13, none⟩ = some v13 ∧ w'.cell? ⟨w.heap.size, 14, none⟩ = some v14 ∧ w'.cell? ⟨w.heap.size, 15, none⟩ = some v15) ∧ (w'.cell? ⟨gq, 0, none⟩ = some (.int .i64 q.now) ∧ w'.cell? ⟨gq, 1, none⟩ = some (.slice Aq q.ships.length cq) ∧ w'.cell? ⟨gq, 2, none⟩ = some (.int .i64 (q.keep 0).wide) ∧ w'.cell? ⟨gq, 3, none⟩ = some (.int .i64 (q.keep 0).fr) ∧ w'.cell? ⟨gq, 4, none⟩ = some (.int .i64 (q.keep 0).to) ∧ w'.cell? ⟨gq, 5, none⟩ = some (.int .i64 (q.keep 1).wide) ∧ w'.cell? ⟨gq, 6, none⟩ = some (.int .i64 (q.keep 1).fr) ∧ w'.cell? ⟨gq, 7, none⟩ = some (.int .i64 (q.keep 1).to) ∧ w'.cell? ⟨gq, 8, none⟩ = some (.int .i64 (q.keep 2).wide) ∧ w'.cell? ⟨gq, 9, none⟩ = some (.int .i64 (q.keep 2).fr) ∧ w'.cell? ⟨gq, 10, none⟩ = some (.int .i64 (q.keep 2).to) ∧ w'.cell? ⟨gq, 11, none⟩ = some (.int .i64 (q.keep 3).wide) ∧ w'.cell? ⟨gq, 12, none⟩ = some (.int .i64 (q.keep 3).fr) ∧ w'.cell? ⟨gq, 13, none⟩ = some (.int .i64 (q.keep 3).to) ∧ w'.cell? ⟨gq, 14, none⟩ = some (.int .i64 q.shut) ∧ w'.cell? ⟨gq, 15, none⟩ = some (.int .i64 q.next))) (first | exact ⟨BoxAt.all hPd, BoxAt.all hQd⟩ | exact ⟨BoxAt.all hPS, BoxAt.all hQS⟩ | exact ⟨BoxAt.all hPR, BoxAt.all hQR⟩) (first
          | (go_at_call 10; refine (HPP.out _ (Sl.drew (Sl.below hin hB2))).mono ?_; rintro e w5 ⟨A5, c5, rfl, h5, hb5, hr5⟩; have hPR := BoxAt.below hP2 (below_undrew hb5) hz; have hQR := BoxAt.below hQ2 (below_undrew hb5) hzq)
          | (go_at_call 15; refine (HMM.out _ _ _ HGQ.out (Sl.below hin (below_go hB2 (below_undrew hb5))) (Sl.below hiq2 (below_undrew hb5)) h5).mono ?_; rintro e w6 ⟨A6, c6, rfl, h6, hb6, hr6⟩; have hPS := BoxAt.below hPR hb6 (BoxAt.lt hPR); have hQS := BoxAt.below hQR hb6 (BoxAt.lt hQR)))
        all_goals
          go_wp2_with fail
          go_meet
          exact ⟨A6, c6, _, rfl, rfl, h6, hQS, Sl.below (Sl.below hiq2 (below_undrew hb5)) hb6, below_go (below_go hB2 (below_undrew hb5)) hb6⟩
      clear hP2 hQ2 hB2 hiq2
      obtain ⟨A3, c3, N, rfl, rfl, h3, hQ3, hiq3, hB3⟩ := hcut
      go_wp2_with (refine wpList_load_box rfl rfl (by first | rfl | simp [Act.eval, Act.put]) hQ3 rfl ?_)
      refine (HPQ.out _ HGQ.out hiq3).mono ?_
      rintro e w5 ⟨A5, c5, rfl, h5, hb5, hr5⟩
      have h35 := h3.below hb5
      have hB5 := below_go hB3 hb5
      clear hQ3 hiq3 hB3 h3 hb5 hr5
      rw [HPL.out] at h35 h5 ⊢
      have t0 : (((q.ships.length : Nat) : Int) != (q.ships.length : Int)) = false := by simp
      go_wp2_with fail
      go_loopw [43] (fun i wr => ∃ k m : Nat, k ≤ q.ships.length ∧ i = .int .i64 k ∧ wr = w5.drewN m) (fun i _ => q.ships.length - (intOf i).toNat)
      case atStart => exact ⟨0, 0, Nat.zero_le _, rfl, rfl⟩
      case round =>
        obtain ⟨k, m, hk, rfl, rfl⟩ := hrel
        by_cases hlt : k < q.ships.length
        · obtain ⟨b3, off3, hA3, hbl3, hc3⟩ := ints_at (l := thePlan q) (by rw [HPL.out]; exact h35) (by rw [HPL.out]; omega)
          subst hA3
          have e3 := hc3 k (by rw [HPL.out]; exact hlt)
          obtain ⟨b5, off5, hA5, hbl5, hc5⟩ := ints_at (l := thePlan q) (by rw [HPL.out]; exact h5) (by rw [HPL.out]; omega)
          subst hA5
          have e5 := hc5 k (by rw [HPL.out]; exact hlt)
          clear hc3 hc5
          generalize (thePlan q).getD k 0 = t at *
          have t2 : (t != t) = false := by simp
          go_wp2_with fail
          go_quiet (fail)
          go_wp2_with fail
          go_roundw
          case rel => exact ⟨k + 1, m + nq, by omega, by go_num, by first | trivial | rw [World.drewN_drewN]⟩
          case measure => simp [intOf] <;> omega
        · obtain rfl : k = q.ships.length := by omega
          go_wp2_with fail
          refine (HPS.out _).mono ?_
          rintro e w11 ⟨rfl, hb11⟩
          go_wp2_with fail
          go_ret
          exact ⟨rfl, below_go (below_drewN hB5 m) hb11⟩
    · obtain ⟨a1, a2, a3⟩ := ne_facts he
      go_wp2_with fail
      refine (HPS.out _).mono ?_
      rintro e w11 ⟨rfl, hb11⟩
      go_wp2_with fail
      go_ret
      exact ⟨rfl, below_go hB2 hb11⟩
end Go.Proofs.Ytifmdkcpbajdcab

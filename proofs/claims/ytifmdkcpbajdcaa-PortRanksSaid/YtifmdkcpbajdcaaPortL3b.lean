/- Walks: an order about one that waits, told to a good port, moves nobody who is ahead of it. -/
import Derived.Test.YtifmdkcpbajdcaaPortL3
import Derived.Deep.RegionWith
import Derived.Deep.DeepCutAuto
import Derived.BigQuiet
namespace Go.Proofs.Ytifmdkcpbajdcaa
open Go.RowKit Go.Proofs Plain

set_option maxRecDepth 100000 in
set_option maxHeartbeats 40000000 in
theorem portRanks_yes (hports : PortsOk) (p : Port) (A : Option Addr) (c : Nat) (kd oa ob oc : Int) (w : World) (hg : PGood p) (hin : InP w p A) (hk : kd = 1 ∨ kd = 2 ∨ kd = 3 ∨ kd = 5) :
    Calls Try.prog 10 #[.agg (portA p A c), .agg (orderA ⟨kd, oa, ob, oc⟩)] w fun e w' => e = .returned (.bool true) ∧ Below w.heap.size w w' := by
  have HPS := Lib.hid hports
  have HGD := Lib.hid hg
  have HG := Lib.hid ((goodP_iff hg.four).2 hg)
  have HW := Lib.hid (fair_wf hg.toFair)
  have hlen := hg.len
  have hn0 := hg.now
  have HTL := Lib.hid (fun (W : World) (hi : InP W p A) => tell_good_walk p A c ⟨kd, oa, ob, oc⟩ W hg hi (tellOk_ranks hg hk))
  have HKD := Lib.hid hk
  have HLP := Lib.hid (plan_len hg)
  have HPP := Lib.hid (fun (W : World) (hi : InP W p A) => plan_any p A c W hg hi)
  clear hports hg
  simp only [portA, orderA] at HTL HPP ⊢
  go_enter Try.func10, Try.ntmps10
  have hP0 : PortAt ((w.alloc (.cells (portA p A c) 46)).alloc (.cells (orderA ⟨kd, oa, ob, oc⟩) 61)) w.heap.size p A c := (PortAt.new w p A c).alloc _
  have hO0 : ((w.alloc (.cells (portA p A c) 46)).alloc (.cells (orderA ⟨kd, oa, ob, oc⟩) 61)).heap[w.heap.size + 1]? = some (.cells (orderA ⟨kd, oa, ob, oc⟩) 61 (0, 0)) := by
    have h1 := heap_alloc_new (w.alloc (.cells (portA p A c) 46)) (.cells (orderA ⟨kd, oa, ob, oc⟩) 61)
    simpa using h1
  have hB0 : Below w.heap.size w ((w.alloc (.cells (portA p A c) 46)).alloc (.cells (orderA ⟨kd, oa, ob, oc⟩) 61)) := ((Below.refl _ _).alloc (Nat.le_refl _) _).alloc (by simp) _
  have hs0 : ((w.alloc (.cells (portA p A c) 46)).alloc (.cells (orderA ⟨kd, oa, ob, oc⟩) 61)).heap.size = w.heap.size + 2 := by simp
  simp only [portA, orderA] at hP0 hB0 hs0 hO0
  go_upto_region 1 with fail
  go_cut [36] (fun v wx => v = .bool false ∧ PortAt wx w.heap.size p A c ∧ wx.heap[w.heap.size + 1]? = some (.cells #[.int .i64 kd, .int .i64 oa, .int .i64 ob, .int .i64 oc] 61 (0, 0)) ∧ Below w.heap.size w wx)
  case first => as_aux_lemma =>
    go_wp2_with (refine wpList_load_port (p := p) (A := A) (c := c) rfl rfl (by first | rfl | simp [Act.eval, Act.put]) hP0 ?_)
    refine (good_port p A c _ HW.out (Sl.below hin hB0)).mono ?_
    rintro e w1 ⟨rfl, hb1⟩
    rw [HG.out]
    have hP1 := PortAt.below (p := p) (A := A) (c := c) hP0 hb1 (by rw [hs0]; omega)
    have hB1 := below_go hB0 hb1
    have hO1 := (hb1.block (w.heap.size + 1) (by rw [hs0]; omega)).trans hO0
    have k0 : w1.cell? ⟨w.heap.size + 1, 0, none⟩ = some (.int .i64 kd) := cell_of_row _ _ 0 _ _ _ hO1
    clear HTL
    rcases hk with rfl | rfl | rfl | rfl
    all_goals
      go_wp2_with fail
      go_meet
      exact ⟨rfl, hP1, hO1, hB1⟩
  case rest =>
    clear hP0 hO0 hB0 hs0
    obtain ⟨rfl, hP1, hO1, hB1⟩ := hcut
    have k0 : wc.cell? ⟨w.heap.size + 1, 0, none⟩ = some (.int .i64 kd) := cell_of_row _ _ 0 _ _ _ hO1
    have k1 : wc.cell? ⟨w.heap.size + 1, 1, none⟩ = some (.int .i64 oa) := cell_of_row _ _ 1 _ _ _ hO1
    have k2 : wc.cell? ⟨w.heap.size + 1, 2, none⟩ = some (.int .i64 ob) := cell_of_row _ _ 2 _ _ _ hO1
    have k3 : wc.cell? ⟨w.heap.size + 1, 3, none⟩ = some (.int .i64 oc) := cell_of_row _ _ 3 _ _ _ hO1
    have hz1 : w.heap.size + 1 < wc.heap.size := (Array.getElem?_eq_some_iff.1 hO1).1
    go_wp2_with (refine wpList_load_port (p := p) (A := A) (c := c) rfl rfl (by first | rfl | simp [Act.eval, Act.put]) hP1 ?_)
    refine (HTL.out _ (Sl.below hin hB1)).mono ?_
    rintro e w3 ⟨Aq, cq, rfl, hiq, hb3⟩
    have hP3 := hP1.below hb3 hP1.lt
    have hO3 := (hb3.block (w.heap.size + 1) hz1).trans hO1
    have hB3 := below_go hB1 hb3
    have hz3 := hb3.size
    clear hP1 hO1 hB1 k0 k1 k2 k3 HTL hb3
    generalize htl : tellL p ⟨kd, oa, ob, oc⟩ = r at *
    obtain ⟨q, n, er⟩ := r
    dsimp only at hiq ⊢
    have hP4 := hP3.alloc (.cells (portA q Aq cq) 46)
    have hQ4 := PortAt.new w3 q Aq cq
    have hB4 := hB3.alloc hB3.size (.cells (portA q Aq cq) 46)
    have hiq4 : InP (w3.alloc (.cells (portA q Aq cq) 46)) q Aq := Sl.alloc hiq _
    have hO4 := (Below.heap_alloc w3 (.cells (portA q Aq cq) 46) (w.heap.size + 1) (by omega)).trans hO3
    clear hP3 hB3 hO3 hiq
    simp only [portA] at hP4 hQ4 hB4 hiq4 hO4 ⊢
    by_cases he : er = 0
    · subst he
      have HGQ := Lib.hid (tell_ok_good HGD.out htl)
      obtain ⟨t1, t2, t3, t4⟩ := told HGD.out hk htl
      dsimp only at t3 t4
      have HLQ := Lib.hid (plan_len HGQ.out)
      have HPQ := Lib.hid (fun (W : World) (hi : InP W q Aq) => plan_any q Aq cq W HGQ.out hi)
      have HTR := Lib.hid (fun h => @tell_ranks p q ⟨kd, oa, ob, oc⟩ n (thePlan p) (thePlan q) HGD.out htl h (thePlan_is HGD.out) (thePlan_is HGQ.out))
      have hlq := HGQ.out.len
      clear htl
      simp only [portA] at HPQ
      go_wp2_with fail
      refine (HPS.out _).mono ?_
      rintro e w5 ⟨rfl, hb5⟩
      have hP6 := PortAt.below (p := p) (A := A) (c := c) hP4 hb5 (PortAt.lt hP4)
      have hQ6 := PortAt.below (p := q) (A := Aq) (c := cq) hQ4 hb5 (PortAt.lt hQ4)
      have hB6 := below_go hB4 hb5
      have hiq6 := Sl.below hiq4 hb5
      have hip6 : InP w5 p A := Sl.below hin hB6
      have hO6 := (hb5.block (w.heap.size + 1) (by simp; omega)).trans hO4
      have k0 : w5.cell? ⟨w.heap.size + 1, 0, none⟩ = some (.int .i64 kd) := cell_of_row _ _ 0 _ _ _ hO6
      have k1 : w5.cell? ⟨w.heap.size + 1, 1, none⟩ = some (.int .i64 oa) := cell_of_row _ _ 1 _ _ _ hO6
      have qs := hP6.ships
      clear hP4 hQ4 hB4 hiq4 hO4 hb5 hO6
      generalize w3.heap.size = gq at *
      by_cases h1 : kd = 1
      · subst h1
        obtain ⟨rfl, t5⟩ := t3 rfl
        obtain ⟨nn, hnn⟩ : ∃ nn, nn = p.ships.length := ⟨_, rfl⟩
        have HN : nn < q.ships.length := by omega
        have HKEY := Lib.hid (show ∀ i, i < p.ships.length → (p.ship i).state = 1 → key (p.ship i) < key (q.ship nn) → (thePlan p).getD i (-1) = (thePlan q).getD i (-1) by
          have := HTR.out (.inl rfl)
          rw [hnn]
          simpa using this)
        have HNN := Lib.hid hnn
        rw [show ((p.ships.length : Nat) : Int) = ((nn : Nat) : Int) from by rw [hnn]]
        clear HTR t3 t4 hnn t5
        go_wp2_with fail
        go_cut [8, 9] (fun x8 x9 wc => ∃ A8 c8 A9 c9, x8 = .slice A8 p.ships.length c8 ∧ x9 = .slice A9 q.ships.length c9 ∧ Sl wc 1 A8 p.ships.length ((thePlan p).map (Value.int .i64)) ∧ Sl wc 1 A9 q.ships.length ((thePlan q).map (Value.int .i64)) ∧ PortAt wc w.heap.size p A c ∧ PortAt wc gq q Aq cq ∧ InP wc q Aq ∧ Below w.heap.size w wc)
        case first => as_aux_lemma =>
          have u0 := hP6.cell 0
          have u1 := hP6.cell 1
          have u2 := hP6.cell 2
          have u3 := hP6.cell 3
          have u4 := hP6.cell 4
          have u5 := hP6.cell 5
          have u6 := hP6.cell 6
          have u7 := hP6.cell 7
          have u8 := hP6.cell 8
          have u9 := hP6.cell 9
          have u10 := hP6.cell 10
          have u11 := hP6.cell 11
          have u12 := hP6.cell 12
          have u13 := hP6.cell 13
          have u14 := hP6.cell 14
          have u15 := hP6.cell 15
          have v0 := hQ6.cell 0
          have v1 := hQ6.cell 1
          have v2 := hQ6.cell 2
          have v3 := hQ6.cell 3
          have v4 := hQ6.cell 4
          have v5 := hQ6.cell 5
          have v6 := hQ6.cell 6
          have v7 := hQ6.cell 7
          have v8 := hQ6.cell 8
          have v9 := hQ6.cell 9
          have v10 := hQ6.cell 10
          have v11 := hQ6.cell 11
          have v12 := hQ6.cell 12
          have v13 := hQ6.cell 13
          have v14 := hQ6.cell 14
          have v15 := hQ6.cell 15
          simp only [portA] at u0 u1 u2 u3 u4 u5 u6 u7 u8 u9 u10 u11 u12 u13 u14 u15 v0 v1 v2 v3 v4 v5 v6 v7 v8 v9 v10 v11 v12 v13 v14 v15
          have hip6d : InP w5.drew p A := Sl.drew hip6
          have hiq6d : InP w5.drew q Aq := Sl.drew hiq6
          go_region_with (first
            | (go_at_call_of 39 (Value.slice A p.ships.length c); refine (HPP.out _ ?_).mono ?_; (first | exact hip6d | exact hipQ); rintro e w7 ⟨A8, c8, rfl, h8, hb8, hr8⟩; (try (have hQP := PortAt.below (p := q) (A := Aq) (c := cq) hQ6 (below_undrew hb8) (PortAt.lt hQ6); have hiqP := Sl.below hiq6 (below_undrew hb8); have y0 := hQP.cell 0; have y1 := hQP.cell 1; have y2 := hQP.cell 2; have y3 := hQP.cell 3; have y4 := hQP.cell 4; have y5 := hQP.cell 5; have y6 := hQP.cell 6; have y7 := hQP.cell 7; have y8 := hQP.cell 8; have y9 := hQP.cell 9; have y10 := hQP.cell 10; have y11 := hQP.cell 11; have y12 := hQP.cell 12; have y13 := hQP.cell 13; have y14 := hQP.cell 14; have y15 := hQP.cell 15; simp only [portA] at y0 y1 y2 y3 y4 y5 y6 y7 y8 y9 y10 y11 y12 y13 y14 y15)))
            | (go_at_call_of 39 (Value.slice Aq q.ships.length cq); refine (HPQ.out _ ?_).mono ?_; (first | exact hiq6d | exact hiqP); rintro e w7 ⟨A9, c9, rfl, h9, hb9, hr9⟩; (try (have hPQ := PortAt.below (p := p) (A := A) (c := c) hP6 (below_undrew hb9) (PortAt.lt hP6); have hipQ := Sl.below hip6 (below_undrew hb9); have z0 := hPQ.cell 0; have z1 := hPQ.cell 1; have z2 := hPQ.cell 2; have z3 := hPQ.cell 3; have z4 := hPQ.cell 4; have z5 := hPQ.cell 5; have z6 := hPQ.cell 6; have z7 := hPQ.cell 7; have z8 := hPQ.cell 8; have z9 := hPQ.cell 9; have z10 := hPQ.cell 10; have z11 := hPQ.cell 11; have z12 := hPQ.cell 12; have z13 := hPQ.cell 13; have z14 := hPQ.cell 14; have z15 := hPQ.cell 15; simp only [portA] at z0 z1 z2 z3 z4 z5 z6 z7 z8 z9 z10 z11 z12 z13 z14 z15))))
          all_goals
            go_wp2_with fail
            rw [HLP.out] at h8
            rw [HLQ.out] at h9
            go_meet
            first
              | exact ⟨A8, c8, A9, c9, by rw [HLP.out], by rw [HLQ.out], h8.below hb9, h9, (PortAt.below (p := p) (A := A) (c := c) hP6 (below_undrew hb8) (PortAt.lt hP6)).below hb9 (PortAt.lt (PortAt.below (p := p) (A := A) (c := c) hP6 (below_undrew hb8) (PortAt.lt hP6))), hQP.below hb9 (PortAt.lt hQP), Sl.below hiqP hb9, below_go (below_go hB6 (below_undrew hb8)) hb9⟩
              | exact ⟨A8, c8, A9, c9, by rw [HLP.out], by rw [HLQ.out], h8, h9.below hb8, hPQ.below hb8 (PortAt.lt hPQ), (PortAt.below (p := q) (A := Aq) (c := cq) hQ6 (below_undrew hb9) (PortAt.lt hQ6)).below hb8 (PortAt.lt (PortAt.below (p := q) (A := Aq) (c := cq) hQ6 (below_undrew hb9) (PortAt.lt hQ6))), Sl.below (Sl.below hiq6 (below_undrew hb9)) hb8, below_go (below_go hB6 (below_undrew hb9)) hb8⟩
        case rest => as_aux_lemma =>
          obtain ⟨A8, c8, A9, c9, rfl, rfl, h8, h9, hP9, hQ9, hiq9, hB9⟩ := hcut
          have q1 := hP9.ships
          have q2 := hQ9.ships
          obtain ⟨bq, offq, hAq, hblq, hcells⟩ := ships_at hiq9 (by omega)
          subst hAq
          obtain ⟨m1, m2, m3, m4, m5, m6⟩ := hcells nn HN
          clear hcells
          change wc.cell? _ = some (.int .i64 (q.ship nn).state) at m1
          change wc.cell? _ = some (.int .i64 (q.ship nn).wide) at m2
          change wc.cell? _ = some (.int .i64 (q.ship nn).long) at m3
          change wc.cell? _ = some (.int .i64 (q.ship nn).cls) at m4
          change wc.cell? _ = some (.int .i64 (q.ship nn).since) at m5
          change wc.cell? _ = some (.int .i64 (q.ship nn).queued) at m6
          have HAK := Lib.hid (fun (i : Nat) (hi : i < p.ships.length) => ahead_key HGD.out HGQ.out hi HN)
          generalize q.ship nn = sx at *
          obtain ⟨ss, sw, sl, sc, si, sq⟩ := sx
          dsimp only at m1 m2 m3 m4 m5 m6
          have hPs := hP9.alloc (.cells (shipV ⟨ss, sw, sl, sc, si, sq⟩) 48)
          have h8s := h8.alloc (.cells (shipV ⟨ss, sw, sl, sc, si, sq⟩) 48)
          have h9s := h9.alloc (.cells (shipV ⟨ss, sw, sl, sc, si, sq⟩) 48)
          have hBs := hB9.alloc hB9.size (.cells (shipV ⟨ss, sw, sl, sc, si, sq⟩) 48)
          have hvs : ∀ i, i < 6 → (wc.alloc (.cells (shipV ⟨ss, sw, sl, sc, si, sq⟩) 48)).cell? ⟨wc.heap.size, i, none⟩ = (shipV ⟨ss, sw, sl, sc, si, sq⟩)[i]? := fun i hi => cell_of_row _ wc.heap.size i _ _ _ (heap_alloc_new wc _)
          have hzs : (wc.alloc (.cells (shipV ⟨ss, sw, sl, sc, si, sq⟩) 48)).heap.size = wc.heap.size + 1 := by simp
          have p1 := hPs.ships
          simp only [shipV] at hPs h8s h9s hBs hvs hzs p1
          go_wp2_with fail
          clear hP9 hQ9 h8 h9 hB9 q1 q2 m1 m2 m3 m4 m5 m6 hiq9
          generalize wc.alloc (.cells #[.int .i64 ss, .int .i64 sw, .int .i64 sl, .int .i64 sc, .int .i64 si, .int .i64 sq] 48) = ws at *
          have s3 : ws.cell? ⟨wc.heap.size, 3, none⟩ = some (.int .i64 sc) := hvs 3 (by omega)
          have s5 : ws.cell? ⟨wc.heap.size, 5, none⟩ = some (.int .i64 sq) := hvs 5 (by omega)
          have hVlt : wc.heap.size < ws.heap.size := by omega
          clear hvs hPs p1 hblq
          generalize wc.heap.size = V at *
          go_loopw [76] (fun i wr => ∃ k : Nat, k ≤ p.ships.length ∧ i = .int .i64 k ∧ Below ws.heap.size ws wr) (fun i _ => p.ships.length - (intOf i).toNat)
          case atStart => exact ⟨0, Nat.zero_le _, rfl, Below.refl _ _⟩
          case round => as_aux_lemma =>
            obtain ⟨k, hk, rfl, hb⟩ := hrel
            have hBr := hBs.trans (hb.mono hBs.size)
            by_cases hlt : k < p.ships.length
            · obtain ⟨b8, off8, hA8, hbl8, hc8⟩ := ints_at (l := thePlan p) (by rw [HLP.out]; exact h8s.below hb) (by rw [HLP.out]; omega)
              subst hA8
              have e8 := hc8 k (by rw [HLP.out]; exact hlt)
              obtain ⟨b9, off9, hA9, hbl9, hc9⟩ := ints_at (l := thePlan q) (by rw [HLQ.out]; exact h9s.below hb) (by rw [HLQ.out]; omega)
              subst hA9
              have e9 := hc9 k (by rw [HLQ.out]; omega)
              clear hc8 hc9
              have hd8 : (thePlan p).getD k 0 = (thePlan p).getD k (-1) := by
                have hk2 : k < (thePlan p).length := by rw [HLP.out]; exact hlt
                rw [List.getD_eq_getElem?_getD, List.getD_eq_getElem?_getD, List.getElem?_eq_getElem hk2]; rfl
              have hd9 : (thePlan q).getD k 0 = (thePlan q).getD k (-1) := by
                have hk2 : k < (thePlan q).length := by rw [HLQ.out]; omega
                rw [List.getD_eq_getElem?_getD, List.getD_eq_getElem?_getD, List.getElem?_eq_getElem hk2]; rfl
              rw [hd8] at e8
              rw [hd9] at e9
              clear hd8 hd9
              obtain ⟨bs, offs, hA, hbl, hcells⟩ := ships_at (Sl.below hin hBr) (by omega)
              subst hA
              obtain ⟨d1, d2, d3, d4, d5, d6⟩ := hcells k hlt
              clear hcells
              have s3' : wr.cell? ⟨V, 3, none⟩ = some (.int .i64 sc) := (hb.cell (p := ⟨V, 3, none⟩) hVlt).trans s3
              have s5' : wr.cell? ⟨V, 5, none⟩ = some (.int .i64 sq) := (hb.cell (p := ⟨V, 5, none⟩) hVlt).trans s5
              have hVr : V < wr.heap.size := Nat.lt_of_lt_of_le hVlt hb.size
              have HK := Lib.hid (HKEY.out k hlt)
              have HA2 := Lib.hid (HAK.out k hlt)
              generalize (thePlan p).getD k (-1) = t at *
              generalize (thePlan q).getD k (-1) = y at *
              change wr.cell? _ = some (.int .i64 (p.ship k).state) at d1
              change wr.cell? _ = some (.int .i64 (p.ship k).wide) at d2
              change wr.cell? _ = some (.int .i64 (p.ship k).long) at d3
              change wr.cell? _ = some (.int .i64 (p.ship k).cls) at d4
              change wr.cell? _ = some (.int .i64 (p.ship k).since) at d5
              change wr.cell? _ = some (.int .i64 (p.ship k).queued) at d6
              generalize p.ship k = x at *
              obtain ⟨st, wd, lg, cl, xi, qu⟩ := x
              dsimp only at d1 d2 d3 d4 d5 d6 HK HA2
              have e8a : (wr.alloc (.cells #[.int .i64 st, .int .i64 wd, .int .i64 lg, .int .i64 cl, .int .i64 xi, .int .i64 qu] 48)).cell? ⟨b8, off8 + k, none⟩ = some (.int .i64 t) := (World.cell?_alloc_lt _ _ ⟨b8, off8 + k, none⟩ hbl8).trans e8
              have e9a : (wr.alloc (.cells #[.int .i64 st, .int .i64 wd, .int .i64 lg, .int .i64 cl, .int .i64 xi, .int .i64 qu] 48)).cell? ⟨b9, off9 + k, none⟩ = some (.int .i64 y) := (World.cell?_alloc_lt _ _ ⟨b9, off9 + k, none⟩ hbl9).trans e9
              have hky : k < q.ships.length := by omega
              by_cases h1s : st = 1
              · have g1 : (st == 1) = true := by simpa using h1s
                by_cases hc1 : cl < sc
                · have g2 : decide (cl < sc) = true := by simpa using hc1
                  have hty := HK.out h1s (HA2.out.1 (.inl hc1))
                  have g3 : (t != y) = false := by simp [hty]
                  clear HK HA2
                  go_wp2_with fail
                  go_quiet (fail)
                  go_wp2_with fail
                  go_roundw
                  case rel => exact ⟨k + 1, by omega, by go_num, below_drewN (hb.alloc hb.size _) nq⟩
                  case measure => simp [intOf] <;> omega
                · have g2 : decide (cl < sc) = false := by simpa using hc1
                  by_cases hc2 : cl = sc
                  · have g3 : (cl == sc) = true := by simpa using hc2
                    by_cases hc3 : qu < sq
                    · have g4 : decide (qu < sq) = true := by simpa using hc3
                      have hty := HK.out h1s (HA2.out.1 (.inr ⟨hc2, hc3⟩))
                      have g5 : (t != y) = false := by simp [hty]
                      clear HK HA2
                      go_wp2_with fail
                      go_quiet (fail)
                      go_wp2_with fail
                      go_roundw
                      case rel => exact ⟨k + 1, by omega, by go_num, below_drewN (hb.alloc hb.size _) nq⟩
                      case measure => simp [intOf] <;> omega
                    · have g4 : decide (qu < sq) = false := by simpa using hc3
                      clear HK HA2
                      go_wp2_with fail
                      go_quiet (fail)
                      go_wp2_with fail
                      go_roundw
                      case rel => exact ⟨k + 1, by omega, by go_num, below_drewN (hb.alloc hb.size _) nq⟩
                      case measure => simp [intOf] <;> omega
                  · have g3 : (cl == sc) = false := by simpa using hc2
                    clear HK HA2
                    go_wp2_with fail
                    go_quiet (fail)
                    go_wp2_with fail
                    go_roundw
                    case rel => exact ⟨k + 1, by omega, by go_num, below_drewN (hb.alloc hb.size _) nq⟩
                    case measure => simp [intOf] <;> omega
              · have g1 : (st == 1) = false := by simpa using h1s
                by_cases hc1 : cl < sc
                · have g2 : decide (cl < sc) = true := by simpa using hc1
                  clear HK HA2
                  go_wp2_with fail
                  go_quiet (fail)
                  go_wp2_with fail
                  go_roundw
                  case rel => exact ⟨k + 1, by omega, by go_num, below_drewN (hb.alloc hb.size _) nq⟩
                  case measure => simp [intOf] <;> omega
                · have g2 : decide (cl < sc) = false := by simpa using hc1
                  by_cases hc2 : cl = sc
                  · have g3 : (cl == sc) = true := by simpa using hc2
                    by_cases hc3 : qu < sq
                    · have g4 : decide (qu < sq) = true := by simpa using hc3
                      clear HK HA2
                      go_wp2_with fail
                      go_quiet (fail)
                      go_wp2_with fail
                      go_roundw
                      case rel => exact ⟨k + 1, by omega, by go_num, below_drewN (hb.alloc hb.size _) nq⟩
                      case measure => simp [intOf] <;> omega
                    · have g4 : decide (qu < sq) = false := by simpa using hc3
                      clear HK HA2
                      go_wp2_with fail
                      go_quiet (fail)
                      go_wp2_with fail
                      go_roundw
                      case rel => exact ⟨k + 1, by omega, by go_num, below_drewN (hb.alloc hb.size _) nq⟩
                      case measure => simp [intOf] <;> omega
                  · have g3 : (cl == sc) = false := by simpa using hc2
                    clear HK HA2
                    go_wp2_with fail
                    go_quiet (fail)
                    go_wp2_with fail
                    go_roundw
                    case rel => exact ⟨k + 1, by omega, by go_num, below_drewN (hb.alloc hb.size _) nq⟩
                    case measure => simp [intOf] <;> omega
            · obtain rfl : k = p.ships.length := by omega
              go_wp2_with fail
              go_ret
              exact ⟨rfl, hBr⟩
      · obtain ⟨a0, a1, a2⟩ := t4 h1
        obtain ⟨nn, rfl⟩ : ∃ nn : Nat, oa = nn := ⟨oa.toNat, by omega⟩
        rw [Int.toNat_natCast] at a1
        have HN : nn < q.ships.length := by omega
        clear a2
        have z1 : (kd == 1) = false := by simpa using h1
        have z2 : (kd != 1) = true := by simpa using h1
        have z3 : decide (kd = 1) = false := by simpa using h1
        obtain ⟨bs, offs, hA, hbl, hcells⟩ := ships_at hip6 (by omega)
        obtain ⟨d1, _⟩ := hcells nn a1
        change w5.cell? _ = some (.int .i64 (p.ship nn).state) at d1
        obtain ⟨st, hst⟩ : ∃ st, (p.ship nn).state = st := ⟨_, rfl⟩
        rw [hst] at d1
        have HST := Lib.hid hst
        clear hcells hst
        by_cases hs1 : st = 1
        · have y1 : (st == 1) = true := by simpa using hs1
          have HKEY := Lib.hid (show ∀ i, i < p.ships.length → (p.ship i).state = 1 → key (p.ship i) < key (q.ship nn) → (thePlan p).getD i (-1) = (thePlan q).getD i (-1) by
            have := HTR.out (.inr ⟨by have := HKD.out; omega, by simpa [HST.out] using hs1⟩)
            simpa [h1] using this)
          clear HTR t3 t4
          subst hA
          go_wp2_with fail
          clear d1 hbl
          generalize some (⟨bs, offs, none⟩ : Addr) = A at *
          go_cut [8, 9] (fun x8 x9 wc => ∃ A8 c8 A9 c9, x8 = .slice A8 p.ships.length c8 ∧ x9 = .slice A9 q.ships.length c9 ∧ Sl wc 1 A8 p.ships.length ((thePlan p).map (Value.int .i64)) ∧ Sl wc 1 A9 q.ships.length ((thePlan q).map (Value.int .i64)) ∧ PortAt wc w.heap.size p A c ∧ PortAt wc gq q Aq cq ∧ InP wc q Aq ∧ Below w.heap.size w wc)
          case first => as_aux_lemma =>
            have u0 := hP6.cell 0
            have u1 := hP6.cell 1
            have u2 := hP6.cell 2
            have u3 := hP6.cell 3
            have u4 := hP6.cell 4
            have u5 := hP6.cell 5
            have u6 := hP6.cell 6
            have u7 := hP6.cell 7
            have u8 := hP6.cell 8
            have u9 := hP6.cell 9
            have u10 := hP6.cell 10
            have u11 := hP6.cell 11
            have u12 := hP6.cell 12
            have u13 := hP6.cell 13
            have u14 := hP6.cell 14
            have u15 := hP6.cell 15
            have v0 := hQ6.cell 0
            have v1 := hQ6.cell 1
            have v2 := hQ6.cell 2
            have v3 := hQ6.cell 3
            have v4 := hQ6.cell 4
            have v5 := hQ6.cell 5
            have v6 := hQ6.cell 6
            have v7 := hQ6.cell 7
            have v8 := hQ6.cell 8
            have v9 := hQ6.cell 9
            have v10 := hQ6.cell 10
            have v11 := hQ6.cell 11
            have v12 := hQ6.cell 12
            have v13 := hQ6.cell 13
            have v14 := hQ6.cell 14
            have v15 := hQ6.cell 15
            simp only [portA] at u0 u1 u2 u3 u4 u5 u6 u7 u8 u9 u10 u11 u12 u13 u14 u15 v0 v1 v2 v3 v4 v5 v6 v7 v8 v9 v10 v11 v12 v13 v14 v15
            have hip6d : InP w5.drew p A := Sl.drew hip6
            have hiq6d : InP w5.drew q Aq := Sl.drew hiq6
            go_region_with (first
              | (go_at_call_of 39 (Value.slice A p.ships.length c); refine (HPP.out _ ?_).mono ?_; (first | exact hip6d | exact hipQ); rintro e w7 ⟨A8, c8, rfl, h8, hb8, hr8⟩; (try (have hQP := PortAt.below (p := q) (A := Aq) (c := cq) hQ6 (below_undrew hb8) (PortAt.lt hQ6); have hiqP := Sl.below hiq6 (below_undrew hb8); have y0 := hQP.cell 0; have y1 := hQP.cell 1; have y2 := hQP.cell 2; have y3 := hQP.cell 3; have y4 := hQP.cell 4; have y5 := hQP.cell 5; have y6 := hQP.cell 6; have y7 := hQP.cell 7; have y8 := hQP.cell 8; have y9 := hQP.cell 9; have y10 := hQP.cell 10; have y11 := hQP.cell 11; have y12 := hQP.cell 12; have y13 := hQP.cell 13; have y14 := hQP.cell 14; have y15 := hQP.cell 15; simp only [portA] at y0 y1 y2 y3 y4 y5 y6 y7 y8 y9 y10 y11 y12 y13 y14 y15)))
              | (go_at_call_of 39 (Value.slice Aq q.ships.length cq); refine (HPQ.out _ ?_).mono ?_; (first | exact hiq6d | exact hiqP); rintro e w7 ⟨A9, c9, rfl, h9, hb9, hr9⟩; (try (have hPQ := PortAt.below (p := p) (A := A) (c := c) hP6 (below_undrew hb9) (PortAt.lt hP6); have hipQ := Sl.below hip6 (below_undrew hb9); have z0 := hPQ.cell 0; have z1 := hPQ.cell 1; have z2 := hPQ.cell 2; have z3 := hPQ.cell 3; have z4 := hPQ.cell 4; have z5 := hPQ.cell 5; have z6 := hPQ.cell 6; have z7 := hPQ.cell 7; have z8 := hPQ.cell 8; have z9 := hPQ.cell 9; have z10 := hPQ.cell 10; have z11 := hPQ.cell 11; have z12 := hPQ.cell 12; have z13 := hPQ.cell 13; have z14 := hPQ.cell 14; have z15 := hPQ.cell 15; simp only [portA] at z0 z1 z2 z3 z4 z5 z6 z7 z8 z9 z10 z11 z12 z13 z14 z15))))
            all_goals
              go_wp2_with fail
              rw [HLP.out] at h8
              rw [HLQ.out] at h9
              go_meet
              first
                | exact ⟨A8, c8, A9, c9, by rw [HLP.out], by rw [HLQ.out], h8.below hb9, h9, (PortAt.below (p := p) (A := A) (c := c) hP6 (below_undrew hb8) (PortAt.lt hP6)).below hb9 (PortAt.lt (PortAt.below (p := p) (A := A) (c := c) hP6 (below_undrew hb8) (PortAt.lt hP6))), hQP.below hb9 (PortAt.lt hQP), Sl.below hiqP hb9, below_go (below_go hB6 (below_undrew hb8)) hb9⟩
                | exact ⟨A8, c8, A9, c9, by rw [HLP.out], by rw [HLQ.out], h8, h9.below hb8, hPQ.below hb8 (PortAt.lt hPQ), (PortAt.below (p := q) (A := Aq) (c := cq) hQ6 (below_undrew hb9) (PortAt.lt hQ6)).below hb8 (PortAt.lt (PortAt.below (p := q) (A := Aq) (c := cq) hQ6 (below_undrew hb9) (PortAt.lt hQ6))), Sl.below (Sl.below hiq6 (below_undrew hb9)) hb8, below_go (below_go hB6 (below_undrew hb9)) hb8⟩
          case rest => as_aux_lemma =>
            obtain ⟨A8, c8, A9, c9, rfl, rfl, h8, h9, hP9, hQ9, hiq9, hB9⟩ := hcut
            have q1 := hP9.ships
            have q2 := hQ9.ships
            obtain ⟨bq, offq, hAq, hblq, hcells⟩ := ships_at hiq9 (by omega)
            subst hAq
            obtain ⟨m1, m2, m3, m4, m5, m6⟩ := hcells nn HN
            clear hcells
            change wc.cell? _ = some (.int .i64 (q.ship nn).state) at m1
            change wc.cell? _ = some (.int .i64 (q.ship nn).wide) at m2
            change wc.cell? _ = some (.int .i64 (q.ship nn).long) at m3
            change wc.cell? _ = some (.int .i64 (q.ship nn).cls) at m4
            change wc.cell? _ = some (.int .i64 (q.ship nn).since) at m5
            change wc.cell? _ = some (.int .i64 (q.ship nn).queued) at m6
            have HAK := Lib.hid (fun (i : Nat) (hi : i < p.ships.length) => ahead_key HGD.out HGQ.out hi HN)
            generalize q.ship nn = sx at *
            obtain ⟨ss, sw, sl, sc, si, sq⟩ := sx
            dsimp only at m1 m2 m3 m4 m5 m6
            have hPs := hP9.alloc (.cells (shipV ⟨ss, sw, sl, sc, si, sq⟩) 48)
            have h8s := h8.alloc (.cells (shipV ⟨ss, sw, sl, sc, si, sq⟩) 48)
            have h9s := h9.alloc (.cells (shipV ⟨ss, sw, sl, sc, si, sq⟩) 48)
            have hBs := hB9.alloc hB9.size (.cells (shipV ⟨ss, sw, sl, sc, si, sq⟩) 48)
            have hvs : ∀ i, i < 6 → (wc.alloc (.cells (shipV ⟨ss, sw, sl, sc, si, sq⟩) 48)).cell? ⟨wc.heap.size, i, none⟩ = (shipV ⟨ss, sw, sl, sc, si, sq⟩)[i]? := fun i hi => cell_of_row _ wc.heap.size i _ _ _ (heap_alloc_new wc _)
            have hzs : (wc.alloc (.cells (shipV ⟨ss, sw, sl, sc, si, sq⟩) 48)).heap.size = wc.heap.size + 1 := by simp
            have p1 := hPs.ships
            simp only [shipV] at hPs h8s h9s hBs hvs hzs p1
            go_wp2_with fail
            clear hP9 hQ9 h8 h9 hB9 q1 q2 m1 m2 m3 m4 m5 m6 hiq9
            generalize wc.alloc (.cells #[.int .i64 ss, .int .i64 sw, .int .i64 sl, .int .i64 sc, .int .i64 si, .int .i64 sq] 48) = ws at *
            have s3 : ws.cell? ⟨wc.heap.size, 3, none⟩ = some (.int .i64 sc) := hvs 3 (by omega)
            have s5 : ws.cell? ⟨wc.heap.size, 5, none⟩ = some (.int .i64 sq) := hvs 5 (by omega)
            have hVlt : wc.heap.size < ws.heap.size := by omega
            clear hvs hPs p1 hblq
            generalize wc.heap.size = V at *
            go_loopw [76] (fun i wr => ∃ k : Nat, k ≤ p.ships.length ∧ i = .int .i64 k ∧ Below ws.heap.size ws wr) (fun i _ => p.ships.length - (intOf i).toNat)
            case atStart => exact ⟨0, Nat.zero_le _, rfl, Below.refl _ _⟩
            case round => as_aux_lemma =>
              obtain ⟨k, hk, rfl, hb⟩ := hrel
              have hBr := hBs.trans (hb.mono hBs.size)
              by_cases hlt : k < p.ships.length
              · obtain ⟨b8, off8, hA8, hbl8, hc8⟩ := ints_at (l := thePlan p) (by rw [HLP.out]; exact h8s.below hb) (by rw [HLP.out]; omega)
                subst hA8
                have e8 := hc8 k (by rw [HLP.out]; exact hlt)
                obtain ⟨b9, off9, hA9, hbl9, hc9⟩ := ints_at (l := thePlan q) (by rw [HLQ.out]; exact h9s.below hb) (by rw [HLQ.out]; omega)
                subst hA9
                have e9 := hc9 k (by rw [HLQ.out]; omega)
                clear hc8 hc9
                have hd8 : (thePlan p).getD k 0 = (thePlan p).getD k (-1) := by
                  have hk2 : k < (thePlan p).length := by rw [HLP.out]; exact hlt
                  rw [List.getD_eq_getElem?_getD, List.getD_eq_getElem?_getD, List.getElem?_eq_getElem hk2]; rfl
                have hd9 : (thePlan q).getD k 0 = (thePlan q).getD k (-1) := by
                  have hk2 : k < (thePlan q).length := by rw [HLQ.out]; omega
                  rw [List.getD_eq_getElem?_getD, List.getD_eq_getElem?_getD, List.getElem?_eq_getElem hk2]; rfl
                rw [hd8] at e8
                rw [hd9] at e9
                clear hd8 hd9
                obtain ⟨bs, offs, hA, hbl, hcells⟩ := ships_at (Sl.below hin hBr) (by omega)
                subst hA
                obtain ⟨d1, d2, d3, d4, d5, d6⟩ := hcells k hlt
                clear hcells
                have s3' : wr.cell? ⟨V, 3, none⟩ = some (.int .i64 sc) := (hb.cell (p := ⟨V, 3, none⟩) hVlt).trans s3
                have s5' : wr.cell? ⟨V, 5, none⟩ = some (.int .i64 sq) := (hb.cell (p := ⟨V, 5, none⟩) hVlt).trans s5
                have hVr : V < wr.heap.size := Nat.lt_of_lt_of_le hVlt hb.size
                have HK := Lib.hid (HKEY.out k hlt)
                have HA2 := Lib.hid (HAK.out k hlt)
                generalize (thePlan p).getD k (-1) = t at *
                generalize (thePlan q).getD k (-1) = y at *
                change wr.cell? _ = some (.int .i64 (p.ship k).state) at d1
                change wr.cell? _ = some (.int .i64 (p.ship k).wide) at d2
                change wr.cell? _ = some (.int .i64 (p.ship k).long) at d3
                change wr.cell? _ = some (.int .i64 (p.ship k).cls) at d4
                change wr.cell? _ = some (.int .i64 (p.ship k).since) at d5
                change wr.cell? _ = some (.int .i64 (p.ship k).queued) at d6
                generalize p.ship k = x at *
                obtain ⟨st, wd, lg, cl, xi, qu⟩ := x
                dsimp only at d1 d2 d3 d4 d5 d6 HK HA2
                have e8a : (wr.alloc (.cells #[.int .i64 st, .int .i64 wd, .int .i64 lg, .int .i64 cl, .int .i64 xi, .int .i64 qu] 48)).cell? ⟨b8, off8 + k, none⟩ = some (.int .i64 t) := (World.cell?_alloc_lt _ _ ⟨b8, off8 + k, none⟩ hbl8).trans e8
                have e9a : (wr.alloc (.cells #[.int .i64 st, .int .i64 wd, .int .i64 lg, .int .i64 cl, .int .i64 xi, .int .i64 qu] 48)).cell? ⟨b9, off9 + k, none⟩ = some (.int .i64 y) := (World.cell?_alloc_lt _ _ ⟨b9, off9 + k, none⟩ hbl9).trans e9
                have hky : k < q.ships.length := by omega
                by_cases h1s : st = 1
                · have g1 : (st == 1) = true := by simpa using h1s
                  by_cases hc1 : cl < sc
                  · have g2 : decide (cl < sc) = true := by simpa using hc1
                    have hty := HK.out h1s (HA2.out.1 (.inl hc1))
                    have g3 : (t != y) = false := by simp [hty]
                    clear HK HA2
                    go_wp2_with fail
                    go_quiet (fail)
                    go_wp2_with fail
                    go_roundw
                    case rel => exact ⟨k + 1, by omega, by go_num, below_drewN (hb.alloc hb.size _) nq⟩
                    case measure => simp [intOf] <;> omega
                  · have g2 : decide (cl < sc) = false := by simpa using hc1
                    by_cases hc2 : cl = sc
                    · have g3 : (cl == sc) = true := by simpa using hc2
                      by_cases hc3 : qu < sq
                      · have g4 : decide (qu < sq) = true := by simpa using hc3
                        have hty := HK.out h1s (HA2.out.1 (.inr ⟨hc2, hc3⟩))
                        have g5 : (t != y) = false := by simp [hty]
                        clear HK HA2
                        go_wp2_with fail
                        go_quiet (fail)
                        go_wp2_with fail
                        go_roundw
                        case rel => exact ⟨k + 1, by omega, by go_num, below_drewN (hb.alloc hb.size _) nq⟩
                        case measure => simp [intOf] <;> omega
                      · have g4 : decide (qu < sq) = false := by simpa using hc3
                        clear HK HA2
                        go_wp2_with fail
                        go_quiet (fail)
                        go_wp2_with fail
                        go_roundw
                        case rel => exact ⟨k + 1, by omega, by go_num, below_drewN (hb.alloc hb.size _) nq⟩
                        case measure => simp [intOf] <;> omega
                    · have g3 : (cl == sc) = false := by simpa using hc2
                      clear HK HA2
                      go_wp2_with fail
                      go_quiet (fail)
                      go_wp2_with fail
                      go_roundw
                      case rel => exact ⟨k + 1, by omega, by go_num, below_drewN (hb.alloc hb.size _) nq⟩
                      case measure => simp [intOf] <;> omega
                · have g1 : (st == 1) = false := by simpa using h1s
                  by_cases hc1 : cl < sc
                  · have g2 : decide (cl < sc) = true := by simpa using hc1
                    clear HK HA2
                    go_wp2_with fail
                    go_quiet (fail)
                    go_wp2_with fail
                    go_roundw
                    case rel => exact ⟨k + 1, by omega, by go_num, below_drewN (hb.alloc hb.size _) nq⟩
                    case measure => simp [intOf] <;> omega
                  · have g2 : decide (cl < sc) = false := by simpa using hc1
                    by_cases hc2 : cl = sc
                    · have g3 : (cl == sc) = true := by simpa using hc2
                      by_cases hc3 : qu < sq
                      · have g4 : decide (qu < sq) = true := by simpa using hc3
                        clear HK HA2
                        go_wp2_with fail
                        go_quiet (fail)
                        go_wp2_with fail
                        go_roundw
                        case rel => exact ⟨k + 1, by omega, by go_num, below_drewN (hb.alloc hb.size _) nq⟩
                        case measure => simp [intOf] <;> omega
                      · have g4 : decide (qu < sq) = false := by simpa using hc3
                        clear HK HA2
                        go_wp2_with fail
                        go_quiet (fail)
                        go_wp2_with fail
                        go_roundw
                        case rel => exact ⟨k + 1, by omega, by go_num, below_drewN (hb.alloc hb.size _) nq⟩
                        case measure => simp [intOf] <;> omega
                    · have g3 : (cl == sc) = false := by simpa using hc2
                      clear HK HA2
                      go_wp2_with fail
                      go_quiet (fail)
                      go_wp2_with fail
                      go_roundw
                      case rel => exact ⟨k + 1, by omega, by go_num, below_drewN (hb.alloc hb.size _) nq⟩
                      case measure => simp [intOf] <;> omega
              · obtain rfl : k = p.ships.length := by omega
                go_wp2_with fail
                go_ret
                exact ⟨rfl, hBr⟩
        · have y1 : (st == 1) = false := by simpa using hs1
          have y2 : (st != 1) = true := by simpa using hs1
          have y3 : decide (st = 1) = false := by simpa using hs1
          subst hA
          clear HTR t3 t4
          go_wp2_with fail
          go_ret
          exact ⟨rfl, hB6⟩
    · have he' : (er == 0) = false := by simpa using he
      clear htl
      go_wp2_with fail
      refine (HPS.out _).mono ?_
      rintro e w5 ⟨rfl, hb5⟩
      go_wp2_with fail
      go_ret
      exact ⟨rfl, below_go hB4 hb5⟩

theorem portRanks_walk (hports : PortsOk) (p : Port) (A : Option Addr) (c : Nat) (o : Order) (w : World) (hp : PWf p) (hin : InP w p A) :
    Calls Try.prog 10 #[.agg (portA p A c), .agg (orderA o)] w fun e w' => e = .returned (.bool true) ∧ Below w.heap.size w w' := by
  by_cases h : goodP p = true ∧ (o.kind = 1 ∨ o.kind = 2 ∨ o.kind = 3 ∨ o.kind = 5)
  · exact portRanks_yes hports p A c o.kind o.a o.b o.c w ((goodP_iff hp.four).1 h.1) hin h.2
  · exact portRanks_not hports p A c o w hp hin h
end Go.Proofs.Ytifmdkcpbajdcaa

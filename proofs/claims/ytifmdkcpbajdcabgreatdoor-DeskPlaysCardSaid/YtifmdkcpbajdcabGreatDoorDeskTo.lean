/- Walks: an order to a desk's port; all that a desk is told. -/
import Derived.Test.YtifmdkcpbajdcabGreatDoorDeskTl
set_option linter.unusedVariables false
set_option linter.unusedSimpArgs false
set_option maxHeartbeats 16000000
namespace Go.Proofs.YtifmdkcpbajdcabGreatDoor
open Go.RowKit Go.Proofs Plain
open List renaming getElem_toArray -> lsA, getElem_cons_zero -> lsB, getElem_cons_succ -> lsC, setIfInBounds_toArray -> lsD, set_cons_zero -> lsE, set_cons_succ -> lsF
open Go.Act renaming put -> aP, eval -> aE
open Go.Lib renaming hid -> hd_
set_option maxRecDepth 100000 in
theorem tell_refuse (Bt : Nat) (G : Nat -> Prop) (g : Nat) (p : Port) (was : Option Port) (ac : Nat) (s : ByteArray) (w : World) (hD : DeskAt w G g ⟨p, was, ac⟩) (hL : LineAt Bt w) (hgB : Bt <= g) (hs : s.size <= maxLen) (h250 : ac < 250) {kd oa ob oc : Int} (hp : parseL s.data.toList = some ⟨kd, oa, ob, oc⟩) (hk1 : 1 <= kd) (hk2 : kd <= 8) (hg : PGood p) {r : Port × Int × Int} (HR : Hid ((tellL p ⟨kd, oa, ob, oc⟩) = r)) (hr : r.2.2 ≠ 0) :
    Calls Tryz.prog 11 #[.pointer (some ⟨g, 0, none⟩), .string s] w (RetD G g (.agg #[.int .i64 (r.2.2), .int .i64 (0)]) ⟨p, was, ac + 1⟩ w) := by
  have hgl := hD.lt
  have hall := hD.all
  have hown := hD.own
  have hr6 := OneRow.of_cell w ⟨g, 18, none⟩ (.int .i64 ((ac : Int) + 1))
  have hsz6 := hr6.size
  have hD6 := desk_start (desk_acts hD) #[.int .i64 0, .int .i64 0]
  have hR6 := RpAt.new (w.setCell ⟨g, 18, none⟩ (.int .i64 ((ac : Int) + 1))) 0 0
  have hT6 : Tn g w ((w.setCell ⟨g, 18, none⟩ (.int .i64 ((ac : Int) + 1))).alloc (.cells #[.int .i64 0, .int .i64 0] 29)) := (Tn.of_one hr6).trans (Tn.of_below ((Below.refl _ _).alloc (Nat.le_refl _) _))
  have hL6 := hL.below (hT6.below hgB hL.size)
  dsimp only at hsz6 hD6
  rw [hsz6] at hD6 hR6
  have hc18 : w.cell? ⟨g, 18, none⟩ = some (.int .i64 ac) := by
    obtain ⟨A, c, B, cB, K0, v2, v3, v4, v5, v6, v7, v8, v9, v10, v11, v12, v13, v14, v15, hv, hb, -⟩ := hD.at_
    exact hb.cell 18
  have hf18 : w.frozen? ⟨g, 18, none⟩ = false := by
    obtain ⟨A, c, B, cB, K0, v2, v3, v4, v5, v6, v7, v8, v9, v10, v11, v12, v13, v14, v15, hv, hb, -⟩ := hD.at_
    exact hb.frozen 18
  have hi6 : (ac : Int) < 250 := by omega
  have d250 : decide (250 <= (ac : Int)) = false := by simp; omega
  clear hD hr6 hL hsz6
  obtain ⟨W6, hW6⟩ : ∃ W6, W6 = (w.setCell ⟨g, 18, none⟩ (.int .i64 ((ac : Int) + 1))).alloc (.cells #[.int .i64 0, .int .i64 0] 29) := ⟨_, rfl⟩
  rw [<- hW6] at hD6 hT6 hL6 hR6
  go_enter Tryz.func11, Tryz.ntmps11
  go_wp2_with fail
  rw [<- hW6]
  clear hW6 hc18 hf18 d250
  refine (parse_any Bt s W6 hL6 hs).mono ?_
  rintro e w7 ⟨rfl, hb7⟩
  rw [hp]
  have hO8 := OrdAt.new w7 ⟨kd, oa, ob, oc⟩
  have hb8 := hb7.trans ((Below.refl W6.heap.size w7).alloc hb7.size (.cells (ordA ⟨kd, oa, ob, oc⟩) 41))
  have hDq := hD6.below hb8
  have hTq := hT6.after hb8 hT6.size
  have hRq := hR6.below hb8 hR6.lt
  have hkO : w.heap.size < w7.heap.size := Nat.lt_of_lt_of_le hR6.lt hb7.size
  simp only [ordA] at hO8 hDq hTq hRq
  simp only [oOf, eOf, Option.getD_some, Option.isSome_some, if_true, ordA]
  obtain ⟨k, hk⟩ : ∃ k, w.heap.size = k := ⟨_, rfl⟩
  rw [hk] at hRq hDq hkO
  rw [hk]
  obtain ⟨kO, hkO2⟩ : ∃ kO, w7.heap.size = kO := ⟨_, rfl⟩
  rw [hkO2] at hO8 hkO
  clear hD6 hT6 hL6 hR6 hb8 hp hi6
  go_upto_region 10 with (fail)
  try rw [hkO2]
  obtain ⟨wq, hwq⟩ : ∃ wq, wq = w7.alloc (.cells #[.int .i64 kd, .int .i64 oa, .int .i64 ob, .int .i64 oc] 41) := ⟨_, rfl⟩
  rw [<- hwq] at hO8 hDq hTq hRq
  rw [<- hwq]
  clear hwq hb7 hkO2
  have hOA := OrdAt.lt (o := ⟨kd, oa, ob, oc⟩) hO8
  obtain ⟨f0, f1, f2, f3, e0, e1, e2, e3⟩ := OrdAt.facts (o := ⟨kd, oa, ob, oc⟩) hO8
  dsimp only at e0 e1 e2 e3
  clear f0 f1 f2 f3
  obtain ⟨A, c, B, cB, K0, v2, v3, v4, v5, v6, v7, v8, v9, v10, v11, v12, v13, v14, v15, hv, hb, hrA, hrB, hK⟩ := hDq.at_
  dsimp only at hv hb hrA hrB hK
  have hTL := fun w h => tellP_any A c ⟨kd, oa, ob, oc⟩ hg w h
  have HQG := hd_ (told_good hg ⟨kd, oa, ob, oc⟩)
  have hX := fun A2 c2 w h3 h4 h5 {u0 u1 u2 u3 u4 u5 u6 u7 u8 u9 u10 u11 u12 u13 u14 u15} hu => next_any p (tellL p ⟨kd, oa, ob, oc⟩).1 A A2 c c2 B cB w hg HQG.out h3 h4 h5 hv (u0 := u0) (u1 := u1) (u2 := u2) (u3 := u3) (u4 := u4) (u5 := u5) (u6 := u6) (u7 := u7) (u8 := u8) (u9 := u9) (u10 := u10) (u11 := u11) (u12 := u12) (u13 := u13) (u14 := u14) (u15 := u15) hu
  rw [hv] at hTL
  rw [HR.out] at hTL HQG hX
  have HTL := hd_ hTL
  have HX := hd_ hX
  have HDQ := hd_ hDq
  have HRQ := hd_ hRq
  have hdq := hb
  have hgq : g < wq.heap.size := DkBox.lt hb
  have hoq := hOA
  have hOq : OrdAt wq kO ⟨kd, oa, ob, oc⟩ := hO8
  have hiq : InP wq p A := hrA.1
  have m9 : (kd == 9) = false := by simp; omega
  have m10 : (kd == 10) = false := by simp; omega
  have m11 : (kd == 11) = false := by simp; omega
  have m12 : (kd == 12) = false := by simp; omega
  have m13 : (kd == 13) = false := by simp; omega
  have m14 : (kd == 14) = false := by simp; omega
  clear hk1 hk2
  clear hb hTL hX hv hDq hRq hO8 hOA HR hg
  go_wp2_with fail
  go_cut [9, 10, 7] (fun x9 x10 x7 wr => Told r wq x9 x10 x7 wr)
  case first => as_aux_lemma =>
    refine wRP (S := fun w' => Below wq.heap.size wq w') (.take 0 (.take 1 (.take 2 (.take 3 (.take 4 (.take 5 (.two 6 11 (.take 7 (.take 8 (.take 9 (.take 10 (.one 11 (.one 12 (.take 13 (.take 14 (.fin))))))))) (.one 6 (.take 7 (.take 8 (.take 9 (.take 10 (.one 12 (.take 13 (.take 14 (.fin)))))))))))))))) (by kernel_rfl) (by kernel_rfl) (Below.refl _ _).drew ?_
    iterate 4
      refine pT_ (v := ?_) rfl (by rfl) (fun w' hw' => ?_) ?_
      rotate_left
      · go_simp; try with_reducible rfl
      try simp only [aP, lsA, lsB, lsC, lsD, lsE, lsF]
    refine pT_ rfl (by rfl) (fun w' hw' => exec_load_in rfl rfl (DkBox.below hdq hw' hgq)) ?_
    try simp only [aP, lsA, lsB, lsC, lsD, lsE, lsF]
    refine pT_ rfl (by rfl) (fun w' hw' => exec_load_od rfl rfl (OrdAt.below hOq hw' hoq)) ?_
    try simp only [aP, lsA, lsB, lsC, lsD, lsE, lsF]
    refine plan_two ?_ ?_
    · refine pO_ rfl (by rfl) fun K hK => ?_
      go_simp
      go_at_call 30
      refine (HTL.out _ (Sl.below hiq (Below.refl _ _).drew)).mono ?_
      rintro e w5 ⟨A5, c5, rfl, hi5, hb5⟩
      have hB5 : Below wq.heap.size wq w5 := bUn hb5
      refine hK.out _ _ hB5 ?_
      clear hK K
      try simp only [aP, lsA, lsB, lsC, lsD, lsE, lsF]
      iterate 4
        refine pT_ (v := ?_) rfl (by rfl) (fun w' hw' => ?_) ?_
        rotate_left
        · go_simp; try with_reducible rfl
        try simp only [aP, lsA, lsB, lsC, lsD, lsE, lsF]
      refine pO_ rfl (by rfl) fun K hK => ?_
      go_simp
      refine hK.out _ _ (hB5.alloc hB5.size _) ?_
      clear hK K
      try simp only [aP, lsA, lsB, lsC, lsD, lsE, lsF]
      refine pO_ rfl (by rfl) fun K hK => ?_
      refine oSB rfl (by first | rfl | simp [aE, aP]) (by first | rfl | simp [aE, aP]) (BoxAt.new w5 _) rfl rfl (portA_one _ A5 c5) ?_
      intro w6 h6 hr6
      have hB6 : Below wq.heap.size wq w6 := (hB5.alloc hB5.size _).trans (hr6.below hB5.size)
      have hi6 : InP w6 (r).1 A5 := Sl.below hi5 (((Below.refl _ _).alloc (Nat.le_refl _) _).trans (hr6.below (Nat.le_refl _)))
      have HTD := hd_ (Told.mk (r := r) (w1 := wq) h6 hi6 hB6 hB5.size)
      refine hK.out _ _ hB6 ?_
      clear hK K h6 hi6 hr6 hi5 hb5
      try simp only [aP, lsA, lsB, lsC, lsD, lsE, lsF]
      iterate 2
        refine pT_ (v := ?_) rfl (by rfl) (fun w' hw' => ?_) ?_
        rotate_left
        · go_simp; try with_reducible rfl
        try simp only [aP, lsA, lsB, lsC, lsD, lsE, lsF]
      refine pD_ (NoPanic.normal ?_)
      go_wp2_with fail
      go_meet
      exact HTD.out
    · refine pO_ rfl (by rfl) fun K hK => ?_
      go_simp
      have hB4 : Below wq.heap.size wq (wq.alloc _).drew := ((Below.refl _ wq).alloc (Nat.le_refl _) (.cells zeroP 36)).drew
      refine hK.out _ _ hB4 ?_
      clear hK K
      try simp only [aP, lsA, lsB, lsC, lsD, lsE, lsF]
      refine pO_ rfl (by rfl) fun K hK => ?_
      go_simp
      go_at_call 30
      refine (HTL.out _ (Sl.below hiq hB4)).mono ?_
      rintro e w5 ⟨A5, c5, rfl, hi5, hb5⟩
      have hB5 : Below wq.heap.size wq w5 := bG_ hB4 hb5
      have h45 := (show BoxAt (wq.alloc (.cells zeroP 36)).drew wq.heap.size zeroP from BoxAt.new wq zeroP).below hb5 (by simp)
      refine hK.out _ _ hB5 ?_
      clear hK K
      try simp only [aP, lsA, lsB, lsC, lsD, lsE, lsF]
      iterate 4
        refine pT_ (v := ?_) rfl (by rfl) (fun w' hw' => ?_) ?_
        rotate_left
        · go_simp; try with_reducible rfl
        try simp only [aP, lsA, lsB, lsC, lsD, lsE, lsF]
      refine pO_ rfl (by rfl) fun K hK => ?_
      refine oSB rfl (by first | rfl | simp [aE, aP]) (by first | rfl | simp [aE, aP]) h45 rfl rfl (portA_one _ A5 c5) ?_
      intro w6 h6 hr6
      have hB6 : Below wq.heap.size wq w6 := hB5.trans (hr6.below (Nat.le_refl _))
      have hi6 : InP w6 (r).1 A5 := ((inP_off hi5 h45 HQG.out).same fun b _ hn => hr6.block b hn).1
      have HTD := hd_ (Told.mk (r := r) (w1 := wq) h6 hi6 hB6 (Nat.le_refl _))
      refine hK.out _ _ hB6 ?_
      clear hK K h6 hi6 hr6 hi5 hb5
      try simp only [aP, lsA, lsB, lsC, lsD, lsE, lsF]
      iterate 2
        refine pT_ (v := ?_) rfl (by rfl) (fun w' hw' => ?_) ?_
        rotate_left
        · go_simp; try with_reducible rfl
        try simp only [aP, lsA, lsB, lsC, lsD, lsE, lsF]
      refine pD_ (NoPanic.normal ?_)
      go_wp2_with fail
      go_meet
      exact HTD.out
  obtain ⟨k9, A5, c5, rfl, rfl, rfl, h5, hi5, hB5, hk5⟩ := hcut
  obtain ⟨w8, rfl⟩ : ∃ w8 : World, w8 = wc := ⟨_, rfl⟩
  obtain ⟨q, m, e⟩ := r
  dsimp only at *
  have n1 : (e == 0) = false := by simpa using hr
  have n2 : (e != 0) = true := by simpa using hr
  have hDq := HDQ.out.below hB5
  have hTq := hTq.after hB5 hTq.size
  have hRq := HRQ.out.below hB5 (RpAt.lt HRQ.out)
  clear h5 hi5 hB5 hdq hgq hoq hOq hiq HTL HX HDQ HRQ hr HQG hrA hrB hK e0 e1 e2 e3
  go_wp2_with fail
  refine (no_ans e _).mono ?_
  rintro e w9 ⟨rfl, hb9⟩
  have hD9 := DeskAt.below hDq hb9
  have hT9 := hTq.after hb9 hTq.size
  have hR9 := RpAt.below hRq hb9 (RpAt.lt hRq)
  have c0 := hR9.cell0
  have c1 := hR9.cell1
  have f0 := hR9.frozen 0
  have f1 := hR9.frozen 1
  clear hDq hTq hRq hb9
  have HE := hd_ (tell_end (a := 0) (b := 0) (c := e) (m := 0) hD9 hall hown hT9 hk)
  have HR := hd_ hR9
  clear hD9 hT9 hR9
  go_wp2_with fail
  refine bodyPost_ret (ans_end rfl rfl HR.out) rfl ?_
  exact HE.out
set_option maxRecDepth 100000 in
theorem tell_order (Bt : Nat) (G : Nat -> Prop) (g : Nat) (p : Port) (was : Option Port) (ac : Nat) (s : ByteArray) (w : World) (hD : DeskAt w G g ⟨p, was, ac⟩) (hL : LineAt Bt w) (hgB : Bt <= g) (hs : s.size <= maxLen) (h250 : ac < 250) {kd oa ob oc : Int} (hp : parseL s.data.toList = some ⟨kd, oa, ob, oc⟩) (hk1 : 1 <= kd) (hk2 : kd <= 8) (hg : PGood p) {r : Port × Int × Int} (HR : Hid ((tellL p ⟨kd, oa, ob, oc⟩) = r)) (hr : Hid (r.2.2 = 0)) :
    Calls Tryz.prog 11 #[.pointer (some ⟨g, 0, none⟩), .string s] w (RetD G g (.agg #[.int .i64 (0), .int .i64 (r.2.1)]) ⟨nextL r.1, was, ac + 1⟩ w) := by
  have hgl := hD.lt
  have hall := hD.all
  have hown := hD.own
  have hr6 := OneRow.of_cell w ⟨g, 18, none⟩ (.int .i64 ((ac : Int) + 1))
  have hsz6 := hr6.size
  have hD6 := desk_start (desk_acts hD) #[.int .i64 0, .int .i64 0]
  have hR6 := RpAt.new (w.setCell ⟨g, 18, none⟩ (.int .i64 ((ac : Int) + 1))) 0 0
  have hT6 : Tn g w ((w.setCell ⟨g, 18, none⟩ (.int .i64 ((ac : Int) + 1))).alloc (.cells #[.int .i64 0, .int .i64 0] 29)) := (Tn.of_one hr6).trans (Tn.of_below ((Below.refl _ _).alloc (Nat.le_refl _) _))
  have hL6 := hL.below (hT6.below hgB hL.size)
  dsimp only at hsz6 hD6
  rw [hsz6] at hD6 hR6
  have hc18 : w.cell? ⟨g, 18, none⟩ = some (.int .i64 ac) := by
    obtain ⟨A, c, B, cB, K0, v2, v3, v4, v5, v6, v7, v8, v9, v10, v11, v12, v13, v14, v15, hv, hb, -⟩ := hD.at_
    exact hb.cell 18
  have hf18 : w.frozen? ⟨g, 18, none⟩ = false := by
    obtain ⟨A, c, B, cB, K0, v2, v3, v4, v5, v6, v7, v8, v9, v10, v11, v12, v13, v14, v15, hv, hb, -⟩ := hD.at_
    exact hb.frozen 18
  have hi6 : (ac : Int) < 250 := by omega
  have d250 : decide (250 <= (ac : Int)) = false := by simp; omega
  clear hD hr6 hL hsz6
  obtain ⟨W6, hW6⟩ : ∃ W6, W6 = (w.setCell ⟨g, 18, none⟩ (.int .i64 ((ac : Int) + 1))).alloc (.cells #[.int .i64 0, .int .i64 0] 29) := ⟨_, rfl⟩
  rw [<- hW6] at hD6 hT6 hL6 hR6
  go_enter Tryz.func11, Tryz.ntmps11
  go_wp2_with fail
  rw [<- hW6]
  clear hW6 hc18 hf18 d250
  refine (parse_any Bt s W6 hL6 hs).mono ?_
  rintro e w7 ⟨rfl, hb7⟩
  rw [hp]
  have hO8 := OrdAt.new w7 ⟨kd, oa, ob, oc⟩
  have hb8 := hb7.trans ((Below.refl W6.heap.size w7).alloc hb7.size (.cells (ordA ⟨kd, oa, ob, oc⟩) 41))
  have hDq := hD6.below hb8
  have hTq := hT6.after hb8 hT6.size
  have hRq := hR6.below hb8 hR6.lt
  have hkO : w.heap.size < w7.heap.size := Nat.lt_of_lt_of_le hR6.lt hb7.size
  simp only [ordA] at hO8 hDq hTq hRq
  simp only [oOf, eOf, Option.getD_some, Option.isSome_some, if_true, ordA]
  obtain ⟨k, hk⟩ : ∃ k, w.heap.size = k := ⟨_, rfl⟩
  rw [hk] at hRq hDq hkO
  rw [hk]
  obtain ⟨kO, hkO2⟩ : ∃ kO, w7.heap.size = kO := ⟨_, rfl⟩
  rw [hkO2] at hO8 hkO
  clear hD6 hT6 hL6 hR6 hb8 hp hi6
  go_upto_region 10 with (fail)
  try rw [hkO2]
  obtain ⟨wq, hwq⟩ : ∃ wq, wq = w7.alloc (.cells #[.int .i64 kd, .int .i64 oa, .int .i64 ob, .int .i64 oc] 41) := ⟨_, rfl⟩
  rw [<- hwq] at hO8 hDq hTq hRq
  rw [<- hwq]
  clear hwq hb7 hkO2
  have hOA := OrdAt.lt (o := ⟨kd, oa, ob, oc⟩) hO8
  obtain ⟨f0, f1, f2, f3, e0, e1, e2, e3⟩ := OrdAt.facts (o := ⟨kd, oa, ob, oc⟩) hO8
  dsimp only at e0 e1 e2 e3
  clear f0 f1 f2 f3
  obtain ⟨A, c, B, cB, K0, v2, v3, v4, v5, v6, v7, v8, v9, v10, v11, v12, v13, v14, v15, hv, hb, hrA, hrB, hK⟩ := hDq.at_
  dsimp only at hv hb hrA hrB hK
  have hTL := fun w h => tellP_any A c ⟨kd, oa, ob, oc⟩ hg w h
  have HQG := hd_ (told_good hg ⟨kd, oa, ob, oc⟩)
  have hX := fun A2 c2 w h3 h4 h5 {u0 u1 u2 u3 u4 u5 u6 u7 u8 u9 u10 u11 u12 u13 u14 u15} hu => next_any p (tellL p ⟨kd, oa, ob, oc⟩).1 A A2 c c2 B cB w hg HQG.out h3 h4 h5 hv (u0 := u0) (u1 := u1) (u2 := u2) (u3 := u3) (u4 := u4) (u5 := u5) (u6 := u6) (u7 := u7) (u8 := u8) (u9 := u9) (u10 := u10) (u11 := u11) (u12 := u12) (u13 := u13) (u14 := u14) (u15 := u15) hu
  rw [hv] at hTL
  rw [HR.out] at hTL HQG hX
  have HTL := hd_ hTL
  have HX := hd_ hX
  have HDQ := hd_ hDq
  have HRQ := hd_ hRq
  have hdq := hb
  have hgq : g < wq.heap.size := DkBox.lt hb
  have hoq := hOA
  have hOq : OrdAt wq kO ⟨kd, oa, ob, oc⟩ := hO8
  have hiq : InP wq p A := hrA.1
  have m9 : (kd == 9) = false := by simp; omega
  have m10 : (kd == 10) = false := by simp; omega
  have m11 : (kd == 11) = false := by simp; omega
  have m12 : (kd == 12) = false := by simp; omega
  have m13 : (kd == 13) = false := by simp; omega
  have m14 : (kd == 14) = false := by simp; omega
  clear hk1 hk2
  clear hb hTL hX hv hDq hRq hO8 hOA HR hg
  go_wp2_with fail
  go_cut [9, 10, 7] (fun x9 x10 x7 wr => Told r wq x9 x10 x7 wr)
  case first => as_aux_lemma =>
    refine wRP (S := fun w' => Below wq.heap.size wq w') (.take 0 (.take 1 (.take 2 (.take 3 (.take 4 (.take 5 (.two 6 11 (.take 7 (.take 8 (.take 9 (.take 10 (.one 11 (.one 12 (.take 13 (.take 14 (.fin))))))))) (.one 6 (.take 7 (.take 8 (.take 9 (.take 10 (.one 12 (.take 13 (.take 14 (.fin)))))))))))))))) (by kernel_rfl) (by kernel_rfl) (Below.refl _ _).drew ?_
    iterate 4
      refine pT_ (v := ?_) rfl (by rfl) (fun w' hw' => ?_) ?_
      rotate_left
      · go_simp; try with_reducible rfl
      try simp only [aP, lsA, lsB, lsC, lsD, lsE, lsF]
    refine pT_ rfl (by rfl) (fun w' hw' => exec_load_in rfl rfl (DkBox.below hdq hw' hgq)) ?_
    try simp only [aP, lsA, lsB, lsC, lsD, lsE, lsF]
    refine pT_ rfl (by rfl) (fun w' hw' => exec_load_od rfl rfl (OrdAt.below hOq hw' hoq)) ?_
    try simp only [aP, lsA, lsB, lsC, lsD, lsE, lsF]
    refine plan_two ?_ ?_
    · refine pO_ rfl (by rfl) fun K hK => ?_
      go_simp
      go_at_call 30
      refine (HTL.out _ (Sl.below hiq (Below.refl _ _).drew)).mono ?_
      rintro e w5 ⟨A5, c5, rfl, hi5, hb5⟩
      have hB5 : Below wq.heap.size wq w5 := bUn hb5
      refine hK.out _ _ hB5 ?_
      clear hK K
      try simp only [aP, lsA, lsB, lsC, lsD, lsE, lsF]
      iterate 4
        refine pT_ (v := ?_) rfl (by rfl) (fun w' hw' => ?_) ?_
        rotate_left
        · go_simp; try with_reducible rfl
        try simp only [aP, lsA, lsB, lsC, lsD, lsE, lsF]
      refine pO_ rfl (by rfl) fun K hK => ?_
      go_simp
      refine hK.out _ _ (hB5.alloc hB5.size _) ?_
      clear hK K
      try simp only [aP, lsA, lsB, lsC, lsD, lsE, lsF]
      refine pO_ rfl (by rfl) fun K hK => ?_
      refine oSB rfl (by first | rfl | simp [aE, aP]) (by first | rfl | simp [aE, aP]) (BoxAt.new w5 _) rfl rfl (portA_one _ A5 c5) ?_
      intro w6 h6 hr6
      have hB6 : Below wq.heap.size wq w6 := (hB5.alloc hB5.size _).trans (hr6.below hB5.size)
      have hi6 : InP w6 (r).1 A5 := Sl.below hi5 (((Below.refl _ _).alloc (Nat.le_refl _) _).trans (hr6.below (Nat.le_refl _)))
      have HTD := hd_ (Told.mk (r := r) (w1 := wq) h6 hi6 hB6 hB5.size)
      refine hK.out _ _ hB6 ?_
      clear hK K h6 hi6 hr6 hi5 hb5
      try simp only [aP, lsA, lsB, lsC, lsD, lsE, lsF]
      iterate 2
        refine pT_ (v := ?_) rfl (by rfl) (fun w' hw' => ?_) ?_
        rotate_left
        · go_simp; try with_reducible rfl
        try simp only [aP, lsA, lsB, lsC, lsD, lsE, lsF]
      refine pD_ (NoPanic.normal ?_)
      go_wp2_with fail
      go_meet
      exact HTD.out
    · refine pO_ rfl (by rfl) fun K hK => ?_
      go_simp
      have hB4 : Below wq.heap.size wq (wq.alloc _).drew := ((Below.refl _ wq).alloc (Nat.le_refl _) (.cells zeroP 36)).drew
      refine hK.out _ _ hB4 ?_
      clear hK K
      try simp only [aP, lsA, lsB, lsC, lsD, lsE, lsF]
      refine pO_ rfl (by rfl) fun K hK => ?_
      go_simp
      go_at_call 30
      refine (HTL.out _ (Sl.below hiq hB4)).mono ?_
      rintro e w5 ⟨A5, c5, rfl, hi5, hb5⟩
      have hB5 : Below wq.heap.size wq w5 := bG_ hB4 hb5
      have h45 := (show BoxAt (wq.alloc (.cells zeroP 36)).drew wq.heap.size zeroP from BoxAt.new wq zeroP).below hb5 (by simp)
      refine hK.out _ _ hB5 ?_
      clear hK K
      try simp only [aP, lsA, lsB, lsC, lsD, lsE, lsF]
      iterate 4
        refine pT_ (v := ?_) rfl (by rfl) (fun w' hw' => ?_) ?_
        rotate_left
        · go_simp; try with_reducible rfl
        try simp only [aP, lsA, lsB, lsC, lsD, lsE, lsF]
      refine pO_ rfl (by rfl) fun K hK => ?_
      refine oSB rfl (by first | rfl | simp [aE, aP]) (by first | rfl | simp [aE, aP]) h45 rfl rfl (portA_one _ A5 c5) ?_
      intro w6 h6 hr6
      have hB6 : Below wq.heap.size wq w6 := hB5.trans (hr6.below (Nat.le_refl _))
      have hi6 : InP w6 (r).1 A5 := ((inP_off hi5 h45 HQG.out).same fun b _ hn => hr6.block b hn).1
      have HTD := hd_ (Told.mk (r := r) (w1 := wq) h6 hi6 hB6 (Nat.le_refl _))
      refine hK.out _ _ hB6 ?_
      clear hK K h6 hi6 hr6 hi5 hb5
      try simp only [aP, lsA, lsB, lsC, lsD, lsE, lsF]
      iterate 2
        refine pT_ (v := ?_) rfl (by rfl) (fun w' hw' => ?_) ?_
        rotate_left
        · go_simp; try with_reducible rfl
        try simp only [aP, lsA, lsB, lsC, lsD, lsE, lsF]
      refine pD_ (NoPanic.normal ?_)
      go_wp2_with fail
      go_meet
      exact HTD.out
  obtain ⟨k9, A5, c5, rfl, rfl, rfl, h5, hi5, hB5, hk5⟩ := hcut
  obtain ⟨w8, rfl⟩ : ∃ w8 : World, w8 = wc := ⟨_, rfl⟩
  obtain ⟨q, m, e⟩ := r
  dsimp only at *
  obtain rfl : e = 0 := hr.out
  clear hr
  have hDq := HDQ.out.below hB5
  have hTq := hTq.after hB5 hTq.size
  have hRq := HRQ.out.below hB5 (RpAt.lt HRQ.out)
  obtain ⟨z0, z1, z2, z3, z4, z5, z6, z7, z8, z9, z10, z11, z12, z13, z14, z15, hz, hzo⟩ := port_vs1 q A5 c5
  rw [hz] at h5
  have HZ := hd_ hz
  have hd3 : DkBox w8.drew g _ := DkBox.below hdq hB5.drew hgq
  have hK3 := hK.same (w' := w8) (fun b h _ => hB5.block b h)
  have hi3 : InP w8.drew q A5 := Sl.drew hi5
  have hia3 : InP w8.drew p A := Sl.drew (Sl.below hiq hB5)
  have hib3 : Sl w8.drew 1 B (thP p).length ((thP p).map (Value.int .i64)) := Sl.drew (Sl.below hrB.1 hB5)
  have h73 : BoxAt w8.drew k9 _ := h5
  have hne : k9 ≠ g := by omega
  have hw8 := hB5.size
  have HALL := hd_ hDq.all
  clear h5 hi5 hdq hgq hoq hOq hiq HTL HDQ HRQ HQG hrA hrB hK e0 e1 e2 e3 hB5 hz
  go_wp2_with fail
  refine wRP (S := fun w' => BoxAt w' k9 #[z0, z1, z2, z3, z4, z5, z6, z7, z8, z9, z10, z11, z12, z13, z14, z15]) (.take 0 (.take 1 (.take 2 (.take 3 (.take 5 (.one 4 (.one 6 (.take 7 (.take 8 (.one 9 (.fin))))))))))) (by kernel_rfl) (by kernel_rfl) h73 ?_
  iterate 4
    refine pT_ (v := ?_) rfl (by rfl) (fun w' hw' => ?_) ?_
    rotate_left
    · go_simp; try with_reducible rfl
    try simp only [aP, lsA, lsB, lsC, lsD, lsE, lsF]
  refine pT_ rfl (by rfl) (fun w' hw' => exec_load_bx rfl rfl hw' rfl) ?_
  try simp only [aP, lsA, lsB, lsC, lsD, lsE, lsF]
  refine pO_ rfl (by rfl) fun K hK => ?_
  refine oper_load_now rfl (by first | rfl | simp [aE, aP]) hd3 ?_
  refine hK.out _ _ h73 ?_
  clear hK K
  try simp only [aP, lsA, lsB, lsC, lsD, lsE, lsF]
  refine pO_ rfl (by rfl) fun K hK => ?_
  go_simp
  go_at_call 31
  refine (HX.out A5 c5 _ hia3 hi3 hib3 HZ.out).mono ?_
  rintro e w5 ⟨y0, y1, y2, y3, y4, y5, y6, y7, y8, y9, y10, y11, y12, y13, y14, y15, A6, c6, B6, cB6, rfl, hy, hi6, hs6, hb6, hfA, hfB⟩
  have h75 := h73.below hb6 h73.lt
  have hd5 := DkBox.below hd3 hb6 (DkBox.lt hd3)
  have hK5 := hK3.same (w := w8) (fun b h _ => hb6.block b h)
  have hyo := port_ones hy
  have HY := hd_ hy
  refine hK.out _ _ h75 ?_
  clear hK K hia3 hi3 hib3 hy HX hd3
  try simp only [aP, lsA, lsB, lsC, lsD, lsE, lsF]
  iterate 2
    refine pT_ (v := ?_) rfl (by rfl) (fun w' hw' => ?_) ?_
    rotate_left
    · go_simp; try with_reducible rfl
    try simp only [aP, lsA, lsB, lsC, lsD, lsE, lsF]
  refine pO_ rfl (by rfl) fun K hK => ?_
  refine oper_store_now rfl (by first | rfl | simp [aE, aP]) (by first | rfl | simp [aE, aP]) hd5 (all_snoc16 hyo rfl) ?_
  intro w6 hd6 hr6
  refine hK.out _ _ (h75.one hr6 hne) ?_
  clear hK K
  try simp only [aP, lsA, lsB, lsC, lsD, lsE, lsF]
  refine pD_ (NoPanic.normal ?_)
  have hgk : k ≠ g := by omega
  have hD9 := desk_next (w0 := w8.drew) (.inl hown) (fun b hb => HALL.out b hb) hb6.size HY.out hi6 hs6 hfA hfB hK5 hd6 hr6
  have hT9 := (hTq.after (bUn hb6) hTq.size).trans (Tn.of_one hr6)
  have hR9 : RpAt w6 k 0 0 := (hr6.block k hgk).trans (RpAt.below hRq (bUn hb6) (RpAt.lt hRq))
  have HE := hd_ (tell_end (a := 0) (b := 0) (c := 0) (m := m) hD9 hall hown hT9 hk)
  have c0 := hR9.cell0
  have c1 := hR9.cell1
  have f0 := hR9.frozen 0
  have f1 := hR9.frozen 1
  have HR := hd_ hR9
  clear hDq hTq hRq hR9 hD9 hT9 hb6 hr6 hd6 hd5 h75 h73 hK5 hK3 hi6 hs6 hfA hfB hyo hzo HZ HALL HY
  go_wp2_with fail
  refine bodyPost_ret (ans_end rfl rfl HR.out) rfl ?_
  exact HE.out
end Go.Proofs.YtifmdkcpbajdcabGreatDoor

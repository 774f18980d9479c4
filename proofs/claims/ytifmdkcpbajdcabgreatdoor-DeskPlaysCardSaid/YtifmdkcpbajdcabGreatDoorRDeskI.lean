/- Walks: what the document's desk is told: orders, guesses. -/
import Derived.Test.YtifmdkcpbajdcabGreatDoorRDeskG
set_option linter.unusedVariables false
set_option linter.unusedSimpArgs false
set_option maxHeartbeats 16000000
namespace Go.Proofs.YtifmdkcpbajdcabGreatDoor
open Go.RowKit Go.Proofs Plain
open List renaming getElem_toArray -> lsA, getElem_cons_zero -> lsB, getElem_cons_succ -> lsC, setIfInBounds_toArray -> lsD, set_cons_zero -> lsE, set_cons_succ -> lsF
open Go.Act renaming put -> aP, eval -> aE
open Go.Lib renaming hid -> hd_
set_option maxRecDepth 100000 in
theorem rtell_guess0 (Bt : Nat) (G : Nat -> Prop) (g : Nat) (p : Port) (was : Option Port) (ac : Nat) (s : ByteArray) (w : World) (hD : RDeskAt w G g ⟨p, was, ac⟩) (hST : SpaceTab Bt w) (hBt : Bt <= w.heap.size) (hgB : Bt <= g) (hs : s.size <= maxLen) (h250 : ac < 250) {oa ob oc : Int} {r : Port × Int × Int} (hp : parseL s.data.toList = some ⟨13, oa, ob, oc⟩) (hg : PGood p) (HR : Hid ((tellL p ⟨1, oa, ob, oc⟩) = r)) (hr : r.2.2 ≠ 0) :
    Calls Tryz.prog 19 #[.pointer (some ⟨g, 0, none⟩), .string s] w (RetRD G g (.agg #[.int .i64 (r.2.2), .int .i64 (0)]) ⟨p, was, ac + 1⟩ w) := by
  have hgl := hD.lt
  have hall := hD.all
  have hown := hD.own
  have hr6 := OneRow.of_cell w ⟨g, 17, none⟩ (.int .i64 ((ac : Int) + 1))
  have hsz6 := hr6.size
  have hD6 := rdS (rdesk_acts hD) #[.int .i64 0, .int .i64 0]
  have hR6 := RpAt.new (w.setCell ⟨g, 17, none⟩ (.int .i64 ((ac : Int) + 1))) 0 0
  have hT6 : Tn g w ((w.setCell ⟨g, 17, none⟩ (.int .i64 ((ac : Int) + 1))).alloc (.cells #[.int .i64 0, .int .i64 0] 29)) := (Tn.of_one hr6).trans (Tn.of_below ((Below.refl _ _).alloc (Nat.le_refl _) _))
  have hL6 := Lib.TabBelow.on hST (hT6.below hgB hBt)
  have hBt6 := Nat.le_trans hBt hT6.size
  dsimp only at hsz6 hD6
  rw [hsz6] at hD6 hR6
  have hc17 : w.cell? ⟨g, 17, none⟩ = some (.int .i64 ac) := by
    obtain ⟨A, c, K0, v2, v3, v4, v5, v6, v7, v8, v9, v10, v11, v12, v13, v14, v15, hv, hb, -⟩ := hD.at_
    exact hb.cell 17
  have hf17 : w.frozen? ⟨g, 17, none⟩ = false := by
    obtain ⟨A, c, K0, v2, v3, v4, v5, v6, v7, v8, v9, v10, v11, v12, v13, v14, v15, hv, hb, -⟩ := hD.at_
    exact hb.frozen 17
  have hi6 : (ac : Int) < 250 := by omega
  have d250 : ((ac : Int) == 250) = false := by simp; omega
  have hwr : IntKind.i64.wrap ((ac : Int) + 1) = (ac : Int) + 1 := IntWalk.i64_in _ (by omega)
  clear hD hr6 hST hsz6
  obtain ⟨W6, hW6⟩ : ∃ W6, W6 = (w.setCell ⟨g, 17, none⟩ (.int .i64 ((ac : Int) + 1))).alloc (.cells #[.int .i64 0, .int .i64 0] 29) := ⟨_, rfl⟩
  rw [<- hW6] at hD6 hT6 hL6 hR6 hBt6
  go_enter Tryz.func19, Tryz.ntmps19
  go_wp2_with fail
  rw [<- hW6]
  clear hW6 hc17 hf17 d250 hwr
  refine (refParse_any Bt s W6 hBt6 hL6 hs).mono ?_
  rintro e w7 ⟨rfl, hb7⟩
  rw [hp]
  have hO8 := OrdAt.new w7 ⟨1, oa, ob, oc⟩
  have hb8 := hb7.trans ((Below.refl W6.heap.size w7).alloc hb7.size (.cells (ordA ⟨1, oa, ob, oc⟩) 41))
  have hDq := hD6.below hb8
  have hTq := hT6.after hb8 hT6.size
  have hRq := hR6.below hb8 hR6.lt
  have hkO : w.heap.size < w7.heap.size := Nat.lt_of_lt_of_le hR6.lt hb7.size
  simp only [ordA] at hO8 hDq hTq hRq
  simp only [oOf, eOf, Option.getD_some, Option.isSome_some, if_true, ordA]
  obtain ⟨k, hk⟩ : ∃ k, w.heap.size = k := ⟨_, rfl⟩
  rw [hk] at hRq hDq hkO
  rw [hk]
  obtain ⟨kO, hkO2⟩ : ∃ kO, w7.heap.size = kO := ⟨_, rfl⟩
  rw [hkO2] at hO8 hkO
  clear hD6 hT6 hL6 hR6 hb8 hp hi6 hBt6 hBt
  go_upto_region 34 with (fail)
  try rw [hkO2]
  obtain ⟨wq, hwq⟩ : ∃ wq, wq = w7.alloc (.cells #[.int .i64 1, .int .i64 oa, .int .i64 ob, .int .i64 oc] 41) := ⟨_, rfl⟩
  rw [<- hwq] at hO8 hDq hTq hRq
  rw [<- hwq]
  clear hwq hb7 hkO2
  have hOA := OrdAt.lt (o := ⟨1, oa, ob, oc⟩) hO8
  obtain ⟨f0, f1, f2, f3, e0, e1, e2, e3⟩ := OrdAt.facts (o := ⟨1, oa, ob, oc⟩) hO8
  dsimp only at e0 e1 e2 e3
  clear f0 f1 f2 f3
  obtain ⟨A, c, K0, v2, v3, v4, v5, v6, v7, v8, v9, v10, v11, v12, v13, v14, v15, hv, hb, hc, hrA, hK⟩ := hDq.at_
  dsimp only at hv hb hc hrA hK
  have hTL := fun w h => refTell_any p A c ⟨1, oa, ob, oc⟩ w hg hc h
  have HQG := hd_ (told_good hg ⟨1, oa, ob, oc⟩)
  rw [hv] at hTL
  rw [HR.out] at hTL HQG
  have HTL := hd_ hTL
  have HDQ := hd_ hDq
  have HRQ := hd_ hRq
  have hdq := hb
  have hgq : g < wq.heap.size := RkBox.lt hb
  have hoq := hOA
  have hOq : OrdAt wq kO ⟨1, oa, ob, oc⟩ := hO8
  have hiq : InP wq p A := hrA.1
  clear hb hTL hv hDq hRq hO8 hOA HR hg hrA hc
  go_cut [9, 10, 11] (fun x9 x10 x7 wr => ToldC r wq x9 x10 x7 wr)
  case first => as_aux_lemma =>
    refine wRP (S := fun w' => Below wq.heap.size wq w') (.take 0 (.take 1 (.take 2 (.take 3 (.take 4 (.two 5 10 (.take 6 (.take 7 (.take 8 (.take 9 (.one 10 (.one 11 (.take 12 (.take 13 (.fin))))))))) (.one 5 (.take 6 (.take 7 (.take 8 (.take 9 (.one 11 (.take 12 (.take 13 (.fin))))))))))))))) (by kernel_rfl) (by kernel_rfl) (Below.refl _ _).drew ?_
    iterate 3
      refine pT_ (v := ?_) rfl (by rfl) (fun w' hw' => ?_) ?_
      rotate_left
      · go_simp; try with_reducible rfl
      try simp only [aP, lsA, lsB, lsC, lsD, lsE, lsF]
    refine pT_ rfl (by rfl) (fun w' hw' => exec_load_rk rfl rfl (RkBox.below hdq hw' hgq)) ?_
    try simp only [aP, lsA, lsB, lsC, lsD, lsE, lsF]
    refine pT_ rfl (by rfl) (fun w' hw' => exec_load_od rfl rfl (OrdAt.below hOq hw' hoq)) ?_
    try simp only [aP, lsA, lsB, lsC, lsD, lsE, lsF]
    refine plan_two ?_ ?_
    · refine pO_ rfl (by rfl) fun K hK => ?_
      go_simp
      go_at_call 45
      refine (HTL.out _ (Sl.below hiq (Below.refl _ _).drew)).mono ?_
      rintro e w5 ⟨A5, c5, rfl, hi5, hc5, hb5, hf5⟩
      have hB5 : Below wq.heap.size wq w5 := bUn hb5
      refine hK.out _ _ hB5 ?_
      clear hK K
      try simp only [aP, lsA, lsB, lsC, lsD, lsE, lsF]
      iterate 4
        refine pT_ (v := ?_) rfl (by rfl) (fun w' hw' => ?_) ?_
        rotate_left
        · go_simp; try with_reducible rfl
        try simp only [aP, lsA, lsB, lsC, lsD, lsE, lsF]
      refine pO_ rfl (by rfl) fun K hK => ?_
      go_simp
      refine hK.out _ _ (hB5.alloc hB5.size _) ?_
      clear hK K
      try simp only [aP, lsA, lsB, lsC, lsD, lsE, lsF]
      refine pO_ rfl (by rfl) fun K hK => ?_
      refine oSB rfl (by first | rfl | simp [aE, aP]) (by first | rfl | simp [aE, aP]) (BoxAt.new w5 _) rfl rfl (portA_one _ A5 c5) ?_
      intro w6 h6 hr6
      have hB6 : Below wq.heap.size wq w6 := (hB5.alloc hB5.size _).trans (hr6.below hB5.size)
      have hi6 : InP w6 (r).1 A5 := Sl.below hi5 (((Below.refl _ _).alloc (Nat.le_refl _) _).trans (hr6.below (Nat.le_refl _)))
      have HTD := hd_ (ToldC.mk (r := r) (w1 := wq) h6 hi6 hB6 hB5.size hc5 hf5)
      refine hK.out _ _ hB6 ?_
      clear hK K h6 hi6 hr6 hi5 hb5
      try simp only [aP, lsA, lsB, lsC, lsD, lsE, lsF]
      iterate 2
        refine pT_ (v := ?_) rfl (by rfl) (fun w' hw' => ?_) ?_
        rotate_left
        · go_simp; try with_reducible rfl
        try simp only [aP, lsA, lsB, lsC, lsD, lsE, lsF]
      refine pD_ (NoPanic.normal ?_)
      go_wp2_with fail
      go_meet
      exact HTD.out
    · refine pO_ rfl (by rfl) fun K hK => ?_
      go_simp
      have hB4 : Below wq.heap.size wq (wq.alloc _).drew := ((Below.refl _ wq).alloc (Nat.le_refl _) (.cells zeroP 36)).drew
      refine hK.out _ _ hB4 ?_
      clear hK K
      try simp only [aP, lsA, lsB, lsC, lsD, lsE, lsF]
      refine pO_ rfl (by rfl) fun K hK => ?_
      go_simp
      go_at_call 45
      refine (HTL.out _ (Sl.below hiq hB4)).mono ?_
      rintro e w5 ⟨A5, c5, rfl, hi5, hc5, hb5, hf5⟩
      have hB5 : Below wq.heap.size wq w5 := bG_ hB4 hb5
      have h45 := (show BoxAt (wq.alloc (.cells zeroP 36)).drew wq.heap.size zeroP from BoxAt.new wq zeroP).below hb5 (by simp)
      refine hK.out _ _ hB5 ?_
      clear hK K
      try simp only [aP, lsA, lsB, lsC, lsD, lsE, lsF]
      iterate 4
        refine pT_ (v := ?_) rfl (by rfl) (fun w' hw' => ?_) ?_
        rotate_left
        · go_simp; try with_reducible rfl
        try simp only [aP, lsA, lsB, lsC, lsD, lsE, lsF]
      refine pO_ rfl (by rfl) fun K hK => ?_
      refine oSB rfl (by first | rfl | simp [aE, aP]) (by first | rfl | simp [aE, aP]) h45 rfl rfl (portA_one _ A5 c5) ?_
      intro w6 h6 hr6
      have hB6 : Below wq.heap.size wq w6 := hB5.trans (hr6.below (Nat.le_refl _))
      have hi6 : InP w6 (r).1 A5 := ((inP_off hi5 h45 HQG.out).same fun b _ hn => hr6.block b hn).1
      have HTD := hd_ (ToldC.mk (r := r) (w1 := wq) h6 hi6 hB6 (Nat.le_refl _) hc5 (fun h => (hf5 h).mono hB4.size))
      refine hK.out _ _ hB6 ?_
      clear hK K h6 hi6 hr6 hi5 hb5
      try simp only [aP, lsA, lsB, lsC, lsD, lsE, lsF]
      iterate 2
        refine pT_ (v := ?_) rfl (by rfl) (fun w' hw' => ?_) ?_
        rotate_left
        · go_simp; try with_reducible rfl
        try simp only [aP, lsA, lsB, lsC, lsD, lsE, lsF]
      refine pD_ (NoPanic.normal ?_)
      go_wp2_with fail
      go_meet
      exact HTD.out
  obtain ⟨k9, A5, c5, rfl, rfl, rfl, h5, hi5, hB5, hk5, hc5, hf5⟩ := hcut
  obtain ⟨w8, rfl⟩ : ∃ w8 : World, w8 = wc := ⟨_, rfl⟩
  obtain ⟨q, m, e⟩ := r
  dsimp only at *
  have n1 : (e == 0) = false := by simpa using hr
  have n2 : (e != 0) = true := by simpa using hr
  have hDq := HDQ.out.below hB5
  have hTq := hTq.after hB5 hTq.size
  have hRq := HRQ.out.below hB5 (RpAt.lt HRQ.out)
  clear h5 hi5 hB5 hdq hgq hoq hOq hiq HTL HDQ HRQ hr HQG hK e0 e1 e2 e3 hc5 hf5
  go_wp2_with fail
  refine (rno_ans e _).mono ?_
  rintro e w9 ⟨rfl, hb9⟩
  have hD9 := RDeskAt.below hDq hb9
  have hT9 := hTq.after hb9 hTq.size
  have hR9 := RpAt.below hRq hb9 (RpAt.lt hRq)
  have c0 := hR9.cell0
  have c1 := hR9.cell1
  have f0 := hR9.frozen 0
  have f1 := hR9.frozen 1
  clear hDq hTq hRq hb9
  have HE := hd_ (rtell_end (a := 0) (b := 0) (c := e) (m := 0) hD9 hall hown hT9 hk)
  have HR := hd_ hR9
  clear hD9 hT9 hR9
  go_wp2_with fail
  refine bodyPost_ret (ans_end rfl rfl HR.out) rfl ?_
  exact HE.out
set_option maxRecDepth 100000 in
theorem rtell_guess1 (Bt : Nat) (G : Nat -> Prop) (g : Nat) (p : Port) (was : Option Port) (ac : Nat) (s : ByteArray) (w : World) (hD : RDeskAt w G g ⟨p, was, ac⟩) (hST : SpaceTab Bt w) (hBt : Bt <= w.heap.size) (hgB : Bt <= g) (hs : s.size <= maxLen) (h250 : ac < 250) {oa ob oc : Int} {r : Port × Int × Int} {NN : Int} (hp : parseL s.data.toList = some ⟨13, oa, ob, oc⟩) (hg : PGood p) (HR : Hid ((tellL p ⟨1, oa, ob, oc⟩) = r)) (hr : Hid (r.2.2 = 0)) (HNN : Hid (NN = (thP r.1).getD r.2.1.toNat (-1))) (hm : Hid (0 <= r.2.1 /\ r.2.1 < r.1.ships.length)) :
    Calls Tryz.prog 19 #[.pointer (some ⟨g, 0, none⟩), .string s] w (RetRD G g (.agg #[.int .i64 (0), .int .i64 (NN)]) ⟨p, was, ac + 1⟩ w) := by
  have hgl := hD.lt
  have hall := hD.all
  have hown := hD.own
  have hr6 := OneRow.of_cell w ⟨g, 17, none⟩ (.int .i64 ((ac : Int) + 1))
  have hsz6 := hr6.size
  have hD6 := rdS (rdesk_acts hD) #[.int .i64 0, .int .i64 0]
  have hR6 := RpAt.new (w.setCell ⟨g, 17, none⟩ (.int .i64 ((ac : Int) + 1))) 0 0
  have hT6 : Tn g w ((w.setCell ⟨g, 17, none⟩ (.int .i64 ((ac : Int) + 1))).alloc (.cells #[.int .i64 0, .int .i64 0] 29)) := (Tn.of_one hr6).trans (Tn.of_below ((Below.refl _ _).alloc (Nat.le_refl _) _))
  have hL6 := Lib.TabBelow.on hST (hT6.below hgB hBt)
  have hBt6 := Nat.le_trans hBt hT6.size
  dsimp only at hsz6 hD6
  rw [hsz6] at hD6 hR6
  have hc17 : w.cell? ⟨g, 17, none⟩ = some (.int .i64 ac) := by
    obtain ⟨A, c, K0, v2, v3, v4, v5, v6, v7, v8, v9, v10, v11, v12, v13, v14, v15, hv, hb, -⟩ := hD.at_
    exact hb.cell 17
  have hf17 : w.frozen? ⟨g, 17, none⟩ = false := by
    obtain ⟨A, c, K0, v2, v3, v4, v5, v6, v7, v8, v9, v10, v11, v12, v13, v14, v15, hv, hb, -⟩ := hD.at_
    exact hb.frozen 17
  have hi6 : (ac : Int) < 250 := by omega
  have d250 : ((ac : Int) == 250) = false := by simp; omega
  have hwr : IntKind.i64.wrap ((ac : Int) + 1) = (ac : Int) + 1 := IntWalk.i64_in _ (by omega)
  clear hD hr6 hST hsz6
  obtain ⟨W6, hW6⟩ : ∃ W6, W6 = (w.setCell ⟨g, 17, none⟩ (.int .i64 ((ac : Int) + 1))).alloc (.cells #[.int .i64 0, .int .i64 0] 29) := ⟨_, rfl⟩
  rw [<- hW6] at hD6 hT6 hL6 hR6 hBt6
  go_enter Tryz.func19, Tryz.ntmps19
  go_wp2_with fail
  rw [<- hW6]
  clear hW6 hc17 hf17 d250 hwr
  refine (refParse_any Bt s W6 hBt6 hL6 hs).mono ?_
  rintro e w7 ⟨rfl, hb7⟩
  rw [hp]
  have hO8 := OrdAt.new w7 ⟨1, oa, ob, oc⟩
  have hb8 := hb7.trans ((Below.refl W6.heap.size w7).alloc hb7.size (.cells (ordA ⟨1, oa, ob, oc⟩) 41))
  have hDq := hD6.below hb8
  have hTq := hT6.after hb8 hT6.size
  have hRq := hR6.below hb8 hR6.lt
  have hkO : w.heap.size < w7.heap.size := Nat.lt_of_lt_of_le hR6.lt hb7.size
  simp only [ordA] at hO8 hDq hTq hRq
  simp only [oOf, eOf, Option.getD_some, Option.isSome_some, if_true, ordA]
  obtain ⟨k, hk⟩ : ∃ k, w.heap.size = k := ⟨_, rfl⟩
  rw [hk] at hRq hDq hkO
  rw [hk]
  obtain ⟨kO, hkO2⟩ : ∃ kO, w7.heap.size = kO := ⟨_, rfl⟩
  rw [hkO2] at hO8 hkO
  clear hD6 hT6 hL6 hR6 hb8 hp hi6 hBt6 hBt
  go_upto_region 34 with (fail)
  try rw [hkO2]
  obtain ⟨wq, hwq⟩ : ∃ wq, wq = w7.alloc (.cells #[.int .i64 1, .int .i64 oa, .int .i64 ob, .int .i64 oc] 41) := ⟨_, rfl⟩
  rw [<- hwq] at hO8 hDq hTq hRq
  rw [<- hwq]
  clear hwq hb7 hkO2
  have hOA := OrdAt.lt (o := ⟨1, oa, ob, oc⟩) hO8
  obtain ⟨f0, f1, f2, f3, e0, e1, e2, e3⟩ := OrdAt.facts (o := ⟨1, oa, ob, oc⟩) hO8
  dsimp only at e0 e1 e2 e3
  clear f0 f1 f2 f3
  obtain ⟨A, c, K0, v2, v3, v4, v5, v6, v7, v8, v9, v10, v11, v12, v13, v14, v15, hv, hb, hc, hrA, hK⟩ := hDq.at_
  dsimp only at hv hb hc hrA hK
  have hTL := fun w h => refTell_any p A c ⟨1, oa, ob, oc⟩ w hg hc h
  have HQG := hd_ (told_good hg ⟨1, oa, ob, oc⟩)
  rw [hv] at hTL
  rw [HR.out] at hTL HQG
  have HTL := hd_ hTL
  have HDQ := hd_ hDq
  have HRQ := hd_ hRq
  have hdq := hb
  have hgq : g < wq.heap.size := RkBox.lt hb
  have hoq := hOA
  have hOq : OrdAt wq kO ⟨1, oa, ob, oc⟩ := hO8
  have hiq : InP wq p A := hrA.1
  clear hb hTL hv hDq hRq hO8 hOA HR hg hrA hc
  go_cut [9, 10, 11] (fun x9 x10 x7 wr => ToldC r wq x9 x10 x7 wr)
  case first => as_aux_lemma =>
    refine wRP (S := fun w' => Below wq.heap.size wq w') (.take 0 (.take 1 (.take 2 (.take 3 (.take 4 (.two 5 10 (.take 6 (.take 7 (.take 8 (.take 9 (.one 10 (.one 11 (.take 12 (.take 13 (.fin))))))))) (.one 5 (.take 6 (.take 7 (.take 8 (.take 9 (.one 11 (.take 12 (.take 13 (.fin))))))))))))))) (by kernel_rfl) (by kernel_rfl) (Below.refl _ _).drew ?_
    iterate 3
      refine pT_ (v := ?_) rfl (by rfl) (fun w' hw' => ?_) ?_
      rotate_left
      · go_simp; try with_reducible rfl
      try simp only [aP, lsA, lsB, lsC, lsD, lsE, lsF]
    refine pT_ rfl (by rfl) (fun w' hw' => exec_load_rk rfl rfl (RkBox.below hdq hw' hgq)) ?_
    try simp only [aP, lsA, lsB, lsC, lsD, lsE, lsF]
    refine pT_ rfl (by rfl) (fun w' hw' => exec_load_od rfl rfl (OrdAt.below hOq hw' hoq)) ?_
    try simp only [aP, lsA, lsB, lsC, lsD, lsE, lsF]
    refine plan_two ?_ ?_
    · refine pO_ rfl (by rfl) fun K hK => ?_
      go_simp
      go_at_call 45
      refine (HTL.out _ (Sl.below hiq (Below.refl _ _).drew)).mono ?_
      rintro e w5 ⟨A5, c5, rfl, hi5, hc5, hb5, hf5⟩
      have hB5 : Below wq.heap.size wq w5 := bUn hb5
      refine hK.out _ _ hB5 ?_
      clear hK K
      try simp only [aP, lsA, lsB, lsC, lsD, lsE, lsF]
      iterate 4
        refine pT_ (v := ?_) rfl (by rfl) (fun w' hw' => ?_) ?_
        rotate_left
        · go_simp; try with_reducible rfl
        try simp only [aP, lsA, lsB, lsC, lsD, lsE, lsF]
      refine pO_ rfl (by rfl) fun K hK => ?_
      go_simp
      refine hK.out _ _ (hB5.alloc hB5.size _) ?_
      clear hK K
      try simp only [aP, lsA, lsB, lsC, lsD, lsE, lsF]
      refine pO_ rfl (by rfl) fun K hK => ?_
      refine oSB rfl (by first | rfl | simp [aE, aP]) (by first | rfl | simp [aE, aP]) (BoxAt.new w5 _) rfl rfl (portA_one _ A5 c5) ?_
      intro w6 h6 hr6
      have hB6 : Below wq.heap.size wq w6 := (hB5.alloc hB5.size _).trans (hr6.below hB5.size)
      have hi6 : InP w6 (r).1 A5 := Sl.below hi5 (((Below.refl _ _).alloc (Nat.le_refl _) _).trans (hr6.below (Nat.le_refl _)))
      have HTD := hd_ (ToldC.mk (r := r) (w1 := wq) h6 hi6 hB6 hB5.size hc5 hf5)
      refine hK.out _ _ hB6 ?_
      clear hK K h6 hi6 hr6 hi5 hb5
      try simp only [aP, lsA, lsB, lsC, lsD, lsE, lsF]
      iterate 2
        refine pT_ (v := ?_) rfl (by rfl) (fun w' hw' => ?_) ?_
        rotate_left
        · go_simp; try with_reducible rfl
        try simp only [aP, lsA, lsB, lsC, lsD, lsE, lsF]
      refine pD_ (NoPanic.normal ?_)
      go_wp2_with fail
      go_meet
      exact HTD.out
    · refine pO_ rfl (by rfl) fun K hK => ?_
      go_simp
      have hB4 : Below wq.heap.size wq (wq.alloc _).drew := ((Below.refl _ wq).alloc (Nat.le_refl _) (.cells zeroP 36)).drew
      refine hK.out _ _ hB4 ?_
      clear hK K
      try simp only [aP, lsA, lsB, lsC, lsD, lsE, lsF]
      refine pO_ rfl (by rfl) fun K hK => ?_
      go_simp
      go_at_call 45
      refine (HTL.out _ (Sl.below hiq hB4)).mono ?_
      rintro e w5 ⟨A5, c5, rfl, hi5, hc5, hb5, hf5⟩
      have hB5 : Below wq.heap.size wq w5 := bG_ hB4 hb5
      have h45 := (show BoxAt (wq.alloc (.cells zeroP 36)).drew wq.heap.size zeroP from BoxAt.new wq zeroP).below hb5 (by simp)
      refine hK.out _ _ hB5 ?_
      clear hK K
      try simp only [aP, lsA, lsB, lsC, lsD, lsE, lsF]
      iterate 4
        refine pT_ (v := ?_) rfl (by rfl) (fun w' hw' => ?_) ?_
        rotate_left
        · go_simp; try with_reducible rfl
        try simp only [aP, lsA, lsB, lsC, lsD, lsE, lsF]
      refine pO_ rfl (by rfl) fun K hK => ?_
      refine oSB rfl (by first | rfl | simp [aE, aP]) (by first | rfl | simp [aE, aP]) h45 rfl rfl (portA_one _ A5 c5) ?_
      intro w6 h6 hr6
      have hB6 : Below wq.heap.size wq w6 := hB5.trans (hr6.below (Nat.le_refl _))
      have hi6 : InP w6 (r).1 A5 := ((inP_off hi5 h45 HQG.out).same fun b _ hn => hr6.block b hn).1
      have HTD := hd_ (ToldC.mk (r := r) (w1 := wq) h6 hi6 hB6 (Nat.le_refl _) hc5 (fun h => (hf5 h).mono hB4.size))
      refine hK.out _ _ hB6 ?_
      clear hK K h6 hi6 hr6 hi5 hb5
      try simp only [aP, lsA, lsB, lsC, lsD, lsE, lsF]
      iterate 2
        refine pT_ (v := ?_) rfl (by rfl) (fun w' hw' => ?_) ?_
        rotate_left
        · go_simp; try with_reducible rfl
        try simp only [aP, lsA, lsB, lsC, lsD, lsE, lsF]
      refine pD_ (NoPanic.normal ?_)
      go_wp2_with fail
      go_meet
      exact HTD.out
  obtain ⟨k9, A5, c5, rfl, rfl, rfl, h5, hi5, hB5, hk5, hc5, hf5⟩ := hcut
  obtain ⟨w8, rfl⟩ : ∃ w8 : World, w8 = wc := ⟨_, rfl⟩
  obtain ⟨q, m, e⟩ := r
  dsimp only at *
  obtain rfl : e = 0 := hr.out
  clear hr
  have hDq := HDQ.out.below hB5
  have hTq := hTq.after hB5 hTq.size
  have hRq := HRQ.out.below hB5 (RpAt.lt HRQ.out)
  obtain ⟨j, rfl⟩ : ∃ j : Nat, m = j := ⟨m.toNat, by have := hm.out; omega⟩
  have hj : j < q.ships.length := by have := hm.out; omega
  have HN1 := hd_ (show NN = (thP q).getD j (-1) by rw [HNN.out, Int.toNat_natCast])
  have hPL := fun w hi => planOf_any q A5 c5 w HQG.out (rankL q) (rankL_is HQG.out) (rank_len q) hi
  have hql := HQG.out.len
  have HLN := hd_ (plan_len HQG.out)
  obtain ⟨z0, z1, z2, z3, z4, z5, z6, z7, z8, z9, z10, z11, z12, z13, z14, z15, hz, hzo⟩ := port_vs1 q A5 c5
  rw [hz] at h5 hPL
  have HPL := hd_ hPL
  clear hPL hz hzo HNN hm hdq hgq hoq hOq hiq HTL HDQ HRQ hK e0 e1 e2 e3 hc5 hf5 hk5
  go_wp2_with (refine wpList_load_box rfl rfl ?hx h5 rfl ?_; (case hx => first | rfl | (simp [aE, aP]; done)))
  refine (HPL.out _ hi5).mono ?_
  rintro e w9 ⟨A6, c6, rfl, hs6, hb6, _⟩
  have hD9 := hDq.below hb6
  have hT9 := hTq.after hb6 hTq.size
  have hR9 := hRq.below hb6 (RpAt.lt hRq)
  have hlen : (thP q).length = q.ships.length := HLN.out
  obtain ⟨b6, off6, rfl, hbl6, hc6⟩ := ints_at hs6 (by rw [hlen]; omega)
  have g6 := hc6 j (by rw [hlen]; exact hj)
  have hnd : (thP q).getD j 0 = NN := by
    rw [HN1.out, List.getD_eq_getElem?_getD, List.getD_eq_getElem?_getD, List.getElem?_eq_getElem (by rw [hlen]; exact hj)]; rfl
  rw [hnd] at g6
  rw [hlen]
  clear hDq hTq hRq h5 hi5 hB5 hb6 hs6 hc6 hnd HQG
  have hDq := hD9
  have hTq := hT9
  have hRq := hR9
  clear hD9 hT9 hR9
  have c0 := hRq.cell0
  have c1 := hRq.cell1
  have f0 := hRq.frozen 0
  have f1 := hRq.frozen 1
  have HE := hd_ (rtell_end (a := 0) (b := 0) (c := 0) (m := NN) hDq hall hown hTq hk)
  have HR := hd_ hRq
  clear hDq hTq hRq
  go_wp2_with fail
  refine bodyPost_ret (ans_end rfl rfl HR.out) rfl ?_
  exact HE.out
end Go.Proofs.YtifmdkcpbajdcabGreatDoor

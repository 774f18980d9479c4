/- Walks: what the document's desk is told: what is no order; beginning, committing, undoing. -/
import Derived.Test.YtifmdkcpbajdcabGreatDoorRDeskP
import Derived.Test.YtifmdkcpbajdcabGreatDoorTurnQ
set_option linter.unusedVariables false
set_option linter.unusedSimpArgs false
set_option maxHeartbeats 16000000
namespace Go.Proofs.YtifmdkcpbajdcabGreatDoor
open Go.RowKit Go.Proofs Plain
open List renaming getElem_toArray -> lsA, getElem_cons_zero -> lsB, getElem_cons_succ -> lsC, setIfInBounds_toArray -> lsD, set_cons_zero -> lsE, set_cons_succ -> lsF
open Go.Act renaming put -> aP, eval -> aE
open Go.Lib renaming hid -> hd_
set_option maxRecDepth 100000 in
theorem rtell_no (Bt : Nat) (G : Nat -> Prop) (g : Nat) (p : Port) (was : Option Port) (ac : Nat) (s : ByteArray) (w : World) (hD : RDeskAt w G g ⟨p, was, ac⟩) (hST : SpaceTab Bt w) (hBt : Bt <= w.heap.size) (hgB : Bt <= g) (hs : s.size <= maxLen) (h250 : ac < 250) (hp : parseL s.data.toList = none) :
    Calls Tryz.prog 19 #[.pointer (some ⟨g, 0, none⟩), .string s] w (RetRD G g (.agg #[.int .i64 (1), .int .i64 (0)]) ⟨p, was, ac + 1⟩ w) := by
  have hgl := hD.lt
  have hall := hD.all
  have hown := hD.own
  have hr6 := OneRow.of_cell w ⟨g, 17, none⟩ (.int .i64 ((ac : Int) + 1))
  have hsz6 := hr6.size
  have hD6 := rdS (rdesk_acts hD) #[.int .i64 0, .int .i64 0]
  have hR6 := RpAt.new (w.setCell ⟨g, 17, none⟩ (.int .i64 ((ac : Int) + 1))) 0 0
  have hT6 : Tn g w ((w.setCell ⟨g, 17, none⟩ (.int .i64 ((ac : Int) + 1))).alloc (.cells #[.int .i64 0, .int .i64 0] 29)) := (Tn.of_one hr6).trans (Tn.of_below ((Below.refl _ _).alloc (Nat.le_refl _) _))
  have hL6 := Lib.TabBelow.on hST (hT6.below hgB hBt)
  have hBt6 := Nat.le_trans hBt hT6.size
  dsimp only at hsz6 hD6
  rw [hsz6] at hD6 hR6
  have hc17 : w.cell? ⟨g, 17, none⟩ = some (.int .i64 ac) := by
    obtain ⟨A, c, K0, v2, v3, v4, v5, v6, v7, v8, v9, v10, v11, v12, v13, v14, v15, hv, hb, -⟩ := hD.at_
    exact hb.cell 17
  have hf17 : w.frozen? ⟨g, 17, none⟩ = false := by
    obtain ⟨A, c, K0, v2, v3, v4, v5, v6, v7, v8, v9, v10, v11, v12, v13, v14, v15, hv, hb, -⟩ := hD.at_
    exact hb.frozen 17
  have hi6 : (ac : Int) < 250 := by omega
  have d250 : ((ac : Int) == 250) = false := by simp; omega
  have hwr : IntKind.i64.wrap ((ac : Int) + 1) = (ac : Int) + 1 := IntWalk.i64_in _ (by omega)
  clear hD hr6 hST hsz6
  obtain ⟨W6, hW6⟩ : ∃ W6, W6 = (w.setCell ⟨g, 17, none⟩ (.int .i64 ((ac : Int) + 1))).alloc (.cells #[.int .i64 0, .int .i64 0] 29) := ⟨_, rfl⟩
  rw [<- hW6] at hD6 hT6 hL6 hR6 hBt6
  go_enter Tryz.func19, Tryz.ntmps19
  go_wp2_with fail
  rw [<- hW6]
  clear hW6 hc17 hf17 d250 hwr
  refine (refParse_any Bt s W6 hBt6 hL6 hs).mono ?_
  rintro e w7 ⟨rfl, hb7⟩
  rw [hp]
  have hb8 := hb7.trans ((Below.refl W6.heap.size w7).alloc hb7.size (.cells #[.int .i64 0, .int .i64 0, .int .i64 0, .int .i64 0] 41))
  have hDq := hD6.below hb8
  have hTq := hT6.after hb8 hT6.size
  have hRq := hR6.below hb8 hR6.lt
  obtain ⟨k, hk⟩ : ∃ k, w.heap.size = k := ⟨_, rfl⟩
  rw [hk] at hRq hDq
  rw [hk]
  simp only [oOf, eOf, Option.getD_none, Option.isSome_none, noO, ordA]
  clear hD6 hT6 hL6 hR6 hp hi6 hb8 hBt6 hBt
  go_wp2_with fail
  refine (rno_ans 1 _).mono ?_
  rintro e w9 ⟨rfl, hb9⟩
  have hD9 := RDeskAt.below hDq hb9
  have hT9 := hTq.after hb9 hTq.size
  have hR9 := RpAt.below hRq hb9 (RpAt.lt hRq)
  have c0 := hR9.cell0
  have c1 := hR9.cell1
  have f0 := hR9.frozen 0
  have f1 := hR9.frozen 1
  clear hDq hTq hRq hb9
  have HE := hd_ (rtell_end (a := 0) (b := 0) (c := 1) (m := 0) hD9 hall hown hT9 hk)
  have HR := hd_ hR9
  clear hD9 hT9 hR9
  go_wp2_with fail
  refine bodyPost_ret (ans_end rfl rfl HR.out) rfl ?_
  exact HE.out
set_option maxRecDepth 100000 in
theorem rtell_begin0 (Bt : Nat) (G : Nat -> Prop) (g : Nat) (p : Port) (was : Option Port) (ac : Nat) (s : ByteArray) (w : World) (hD : RDeskAt w G g ⟨p, was, ac⟩) (hST : SpaceTab Bt w) (hBt : Bt <= w.heap.size) (hgB : Bt <= g) (hs : s.size <= maxLen) (h250 : ac < 250) {oa ob oc : Int} (hp : parseL s.data.toList = some ⟨10, oa, ob, oc⟩) (q : Port) (hq : was = some q) :
    Calls Tryz.prog 19 #[.pointer (some ⟨g, 0, none⟩), .string s] w (RetRD G g (.agg #[.int .i64 (7), .int .i64 (0)]) ⟨p, was, ac + 1⟩ w) := by
  have hgl := hD.lt
  have hall := hD.all
  have hown := hD.own
  have hr6 := OneRow.of_cell w ⟨g, 17, none⟩ (.int .i64 ((ac : Int) + 1))
  have hsz6 := hr6.size
  have hD6 := rdS (rdesk_acts hD) #[.int .i64 0, .int .i64 0]
  have hR6 := RpAt.new (w.setCell ⟨g, 17, none⟩ (.int .i64 ((ac : Int) + 1))) 0 0
  have hT6 : Tn g w ((w.setCell ⟨g, 17, none⟩ (.int .i64 ((ac : Int) + 1))).alloc (.cells #[.int .i64 0, .int .i64 0] 29)) := (Tn.of_one hr6).trans (Tn.of_below ((Below.refl _ _).alloc (Nat.le_refl _) _))
  have hL6 := Lib.TabBelow.on hST (hT6.below hgB hBt)
  have hBt6 := Nat.le_trans hBt hT6.size
  dsimp only at hsz6 hD6
  rw [hsz6] at hD6 hR6
  have hc17 : w.cell? ⟨g, 17, none⟩ = some (.int .i64 ac) := by
    obtain ⟨A, c, K0, v2, v3, v4, v5, v6, v7, v8, v9, v10, v11, v12, v13, v14, v15, hv, hb, -⟩ := hD.at_
    exact hb.cell 17
  have hf17 : w.frozen? ⟨g, 17, none⟩ = false := by
    obtain ⟨A, c, K0, v2, v3, v4, v5, v6, v7, v8, v9, v10, v11, v12, v13, v14, v15, hv, hb, -⟩ := hD.at_
    exact hb.frozen 17
  have hi6 : (ac : Int) < 250 := by omega
  have d250 : ((ac : Int) == 250) = false := by simp; omega
  have hwr : IntKind.i64.wrap ((ac : Int) + 1) = (ac : Int) + 1 := IntWalk.i64_in _ (by omega)
  clear hD hr6 hST hsz6
  obtain ⟨W6, hW6⟩ : ∃ W6, W6 = (w.setCell ⟨g, 17, none⟩ (.int .i64 ((ac : Int) + 1))).alloc (.cells #[.int .i64 0, .int .i64 0] 29) := ⟨_, rfl⟩
  rw [<- hW6] at hD6 hT6 hL6 hR6 hBt6
  go_enter Tryz.func19, Tryz.ntmps19
  go_wp2_with fail
  rw [<- hW6]
  clear hW6 hc17 hf17 d250 hwr
  refine (refParse_any Bt s W6 hBt6 hL6 hs).mono ?_
  rintro e w7 ⟨rfl, hb7⟩
  rw [hp]
  have hO8 := OrdAt.new w7 ⟨10, oa, ob, oc⟩
  have hb8 := hb7.trans ((Below.refl W6.heap.size w7).alloc hb7.size (.cells (ordA ⟨10, oa, ob, oc⟩) 41))
  have hDq := hD6.below hb8
  have hTq := hT6.after hb8 hT6.size
  have hRq := hR6.below hb8 hR6.lt
  have hkO : w.heap.size < w7.heap.size := Nat.lt_of_lt_of_le hR6.lt hb7.size
  simp only [ordA] at hO8 hDq hTq hRq
  simp only [oOf, eOf, Option.getD_some, Option.isSome_some, if_true, ordA]
  obtain ⟨k, hk⟩ : ∃ k, w.heap.size = k := ⟨_, rfl⟩
  rw [hk] at hRq hDq hkO
  rw [hk]
  obtain ⟨kO, hkO2⟩ : ∃ kO, w7.heap.size = kO := ⟨_, rfl⟩
  rw [hkO2] at hO8 hkO
  clear hD6 hT6 hL6 hR6 hb8 hp hi6 hBt6 hBt
  go_upto_region 8 with (fail)
  try rw [hkO2]
  obtain ⟨wq, hwq⟩ : ∃ wq, wq = w7.alloc (.cells #[.int .i64 10, .int .i64 oa, .int .i64 ob, .int .i64 oc] 41) := ⟨_, rfl⟩
  rw [<- hwq] at hO8 hDq hTq hRq
  rw [<- hwq]
  clear hwq hb7 hkO2
  have hOA := OrdAt.lt (o := ⟨10, oa, ob, oc⟩) hO8
  obtain ⟨f0, f1, f2, f3, e0, e1, e2, e3⟩ := OrdAt.facts (o := ⟨10, oa, ob, oc⟩) hO8
  dsimp only at e0 e1 e2 e3
  clear f0 f1 f2 f3
  subst hq
  obtain ⟨A, c, K0, v2, v3, v4, v5, v6, v7, v8, v9, v10, v11, v12, v13, v14, v15, hv, hb, hc, hrA, hK⟩ := hDq.at_
  dsimp only at hv hb hc hrA hK
  obtain ⟨k2, rfl, -⟩ := hK
  have hc16 : wq.cell? ⟨g, 16, none⟩ = some (.pointer (some ⟨k2, 0, none⟩)) := hb.cell 16
  clear hv hb hc hrA
  go_wp2_with fail
  refine (rno_ans 7 _).mono ?_
  rintro e w9 ⟨rfl, hb9⟩
  have hD9 := RDeskAt.below hDq hb9
  have hT9 := hTq.after hb9 hTq.size
  have hR9 := RpAt.below hRq hb9 (RpAt.lt hRq)
  have c0 := hR9.cell0
  have c1 := hR9.cell1
  have f0 := hR9.frozen 0
  have f1 := hR9.frozen 1
  clear hDq hTq hRq hb9
  have HE := hd_ (rtell_end (a := 0) (b := 0) (c := 7) (m := 0) hD9 hall hown hT9 hk)
  have HR := hd_ hR9
  clear hD9 hT9 hR9
  go_wp2_with fail
  refine bodyPost_ret (ans_end rfl rfl HR.out) rfl ?_
  exact HE.out
set_option maxRecDepth 100000 in
theorem rtell_commit0 (Bt : Nat) (G : Nat -> Prop) (g : Nat) (p : Port) (was : Option Port) (ac : Nat) (s : ByteArray) (w : World) (hD : RDeskAt w G g ⟨p, was, ac⟩) (hST : SpaceTab Bt w) (hBt : Bt <= w.heap.size) (hgB : Bt <= g) (hs : s.size <= maxLen) (h250 : ac < 250) {oa ob oc : Int} (hp : parseL s.data.toList = some ⟨11, oa, ob, oc⟩) (hq : was = none) :
    Calls Tryz.prog 19 #[.pointer (some ⟨g, 0, none⟩), .string s] w (RetRD G g (.agg #[.int .i64 (7), .int .i64 (0)]) ⟨p, was, ac + 1⟩ w) := by
  have hgl := hD.lt
  have hall := hD.all
  have hown := hD.own
  have hr6 := OneRow.of_cell w ⟨g, 17, none⟩ (.int .i64 ((ac : Int) + 1))
  have hsz6 := hr6.size
  have hD6 := rdS (rdesk_acts hD) #[.int .i64 0, .int .i64 0]
  have hR6 := RpAt.new (w.setCell ⟨g, 17, none⟩ (.int .i64 ((ac : Int) + 1))) 0 0
  have hT6 : Tn g w ((w.setCell ⟨g, 17, none⟩ (.int .i64 ((ac : Int) + 1))).alloc (.cells #[.int .i64 0, .int .i64 0] 29)) := (Tn.of_one hr6).trans (Tn.of_below ((Below.refl _ _).alloc (Nat.le_refl _) _))
  have hL6 := Lib.TabBelow.on hST (hT6.below hgB hBt)
  have hBt6 := Nat.le_trans hBt hT6.size
  dsimp only at hsz6 hD6
  rw [hsz6] at hD6 hR6
  have hc17 : w.cell? ⟨g, 17, none⟩ = some (.int .i64 ac) := by
    obtain ⟨A, c, K0, v2, v3, v4, v5, v6, v7, v8, v9, v10, v11, v12, v13, v14, v15, hv, hb, -⟩ := hD.at_
    exact hb.cell 17
  have hf17 : w.frozen? ⟨g, 17, none⟩ = false := by
    obtain ⟨A, c, K0, v2, v3, v4, v5, v6, v7, v8, v9, v10, v11, v12, v13, v14, v15, hv, hb, -⟩ := hD.at_
    exact hb.frozen 17
  have hi6 : (ac : Int) < 250 := by omega
  have d250 : ((ac : Int) == 250) = false := by simp; omega
  have hwr : IntKind.i64.wrap ((ac : Int) + 1) = (ac : Int) + 1 := IntWalk.i64_in _ (by omega)
  clear hD hr6 hST hsz6
  obtain ⟨W6, hW6⟩ : ∃ W6, W6 = (w.setCell ⟨g, 17, none⟩ (.int .i64 ((ac : Int) + 1))).alloc (.cells #[.int .i64 0, .int .i64 0] 29) := ⟨_, rfl⟩
  rw [<- hW6] at hD6 hT6 hL6 hR6 hBt6
  go_enter Tryz.func19, Tryz.ntmps19
  go_wp2_with fail
  rw [<- hW6]
  clear hW6 hc17 hf17 d250 hwr
  refine (refParse_any Bt s W6 hBt6 hL6 hs).mono ?_
  rintro e w7 ⟨rfl, hb7⟩
  rw [hp]
  have hO8 := OrdAt.new w7 ⟨11, oa, ob, oc⟩
  have hb8 := hb7.trans ((Below.refl W6.heap.size w7).alloc hb7.size (.cells (ordA ⟨11, oa, ob, oc⟩) 41))
  have hDq := hD6.below hb8
  have hTq := hT6.after hb8 hT6.size
  have hRq := hR6.below hb8 hR6.lt
  have hkO : w.heap.size < w7.heap.size := Nat.lt_of_lt_of_le hR6.lt hb7.size
  simp only [ordA] at hO8 hDq hTq hRq
  simp only [oOf, eOf, Option.getD_some, Option.isSome_some, if_true, ordA]
  obtain ⟨k, hk⟩ : ∃ k, w.heap.size = k := ⟨_, rfl⟩
  rw [hk] at hRq hDq hkO
  rw [hk]
  obtain ⟨kO, hkO2⟩ : ∃ kO, w7.heap.size = kO := ⟨_, rfl⟩
  rw [hkO2] at hO8 hkO
  clear hD6 hT6 hL6 hR6 hb8 hp hi6 hBt6 hBt
  go_upto_region 8 with (fail)
  try rw [hkO2]
  obtain ⟨wq, hwq⟩ : ∃ wq, wq = w7.alloc (.cells #[.int .i64 11, .int .i64 oa, .int .i64 ob, .int .i64 oc] 41) := ⟨_, rfl⟩
  rw [<- hwq] at hO8 hDq hTq hRq
  rw [<- hwq]
  clear hwq hb7 hkO2
  have hOA := OrdAt.lt (o := ⟨11, oa, ob, oc⟩) hO8
  obtain ⟨f0, f1, f2, f3, e0, e1, e2, e3⟩ := OrdAt.facts (o := ⟨11, oa, ob, oc⟩) hO8
  dsimp only at e0 e1 e2 e3
  clear f0 f1 f2 f3
  subst hq
  obtain ⟨A, c, K0, v2, v3, v4, v5, v6, v7, v8, v9, v10, v11, v12, v13, v14, v15, hv, hb, hc, hrA, hK⟩ := hDq.at_
  dsimp only at hv hb hc hrA hK
  obtain rfl : K0 = none := hK
  have hc16 : wq.cell? ⟨g, 16, none⟩ = some (.pointer none) := hb.cell 16
  clear hv hb hc hrA
  go_wp2_with fail
  refine (rno_ans 7 _).mono ?_
  rintro e w9 ⟨rfl, hb9⟩
  have hD9 := RDeskAt.below hDq hb9
  have hT9 := hTq.after hb9 hTq.size
  have hR9 := RpAt.below hRq hb9 (RpAt.lt hRq)
  have c0 := hR9.cell0
  have c1 := hR9.cell1
  have f0 := hR9.frozen 0
  have f1 := hR9.frozen 1
  clear hDq hTq hRq hb9
  have HE := hd_ (rtell_end (a := 0) (b := 0) (c := 7) (m := 0) hD9 hall hown hT9 hk)
  have HR := hd_ hR9
  clear hD9 hT9 hR9
  go_wp2_with fail
  refine bodyPost_ret (ans_end rfl rfl HR.out) rfl ?_
  exact HE.out
set_option maxRecDepth 100000 in
theorem rtell_undo0 (Bt : Nat) (G : Nat -> Prop) (g : Nat) (p : Port) (was : Option Port) (ac : Nat) (s : ByteArray) (w : World) (hD : RDeskAt w G g ⟨p, was, ac⟩) (hST : SpaceTab Bt w) (hBt : Bt <= w.heap.size) (hgB : Bt <= g) (hs : s.size <= maxLen) (h250 : ac < 250) {oa ob oc : Int} (hp : parseL s.data.toList = some ⟨12, oa, ob, oc⟩) (hq : was = none) :
    Calls Tryz.prog 19 #[.pointer (some ⟨g, 0, none⟩), .string s] w (RetRD G g (.agg #[.int .i64 (7), .int .i64 (0)]) ⟨p, was, ac + 1⟩ w) := by
  have hgl := hD.lt
  have hall := hD.all
  have hown := hD.own
  have hr6 := OneRow.of_cell w ⟨g, 17, none⟩ (.int .i64 ((ac : Int) + 1))
  have hsz6 := hr6.size
  have hD6 := rdS (rdesk_acts hD) #[.int .i64 0, .int .i64 0]
  have hR6 := RpAt.new (w.setCell ⟨g, 17, none⟩ (.int .i64 ((ac : Int) + 1))) 0 0
  have hT6 : Tn g w ((w.setCell ⟨g, 17, none⟩ (.int .i64 ((ac : Int) + 1))).alloc (.cells #[.int .i64 0, .int .i64 0] 29)) := (Tn.of_one hr6).trans (Tn.of_below ((Below.refl _ _).alloc (Nat.le_refl _) _))
  have hL6 := Lib.TabBelow.on hST (hT6.below hgB hBt)
  have hBt6 := Nat.le_trans hBt hT6.size
  dsimp only at hsz6 hD6
  rw [hsz6] at hD6 hR6
  have hc17 : w.cell? ⟨g, 17, none⟩ = some (.int .i64 ac) := by
    obtain ⟨A, c, K0, v2, v3, v4, v5, v6, v7, v8, v9, v10, v11, v12, v13, v14, v15, hv, hb, -⟩ := hD.at_
    exact hb.cell 17
  have hf17 : w.frozen? ⟨g, 17, none⟩ = false := by
    obtain ⟨A, c, K0, v2, v3, v4, v5, v6, v7, v8, v9, v10, v11, v12, v13, v14, v15, hv, hb, -⟩ := hD.at_
    exact hb.frozen 17
  have hi6 : (ac : Int) < 250 := by omega
  have d250 : ((ac : Int) == 250) = false := by simp; omega
  have hwr : IntKind.i64.wrap ((ac : Int) + 1) = (ac : Int) + 1 := IntWalk.i64_in _ (by omega)
  clear hD hr6 hST hsz6
  obtain ⟨W6, hW6⟩ : ∃ W6, W6 = (w.setCell ⟨g, 17, none⟩ (.int .i64 ((ac : Int) + 1))).alloc (.cells #[.int .i64 0, .int .i64 0] 29) := ⟨_, rfl⟩
  rw [<- hW6] at hD6 hT6 hL6 hR6 hBt6
  go_enter Tryz.func19, Tryz.ntmps19
  go_wp2_with fail
  rw [<- hW6]
  clear hW6 hc17 hf17 d250 hwr
  refine (refParse_any Bt s W6 hBt6 hL6 hs).mono ?_
  rintro e w7 ⟨rfl, hb7⟩
  rw [hp]
  have hO8 := OrdAt.new w7 ⟨12, oa, ob, oc⟩
  have hb8 := hb7.trans ((Below.refl W6.heap.size w7).alloc hb7.size (.cells (ordA ⟨12, oa, ob, oc⟩) 41))
  have hDq := hD6.below hb8
  have hTq := hT6.after hb8 hT6.size
  have hRq := hR6.below hb8 hR6.lt
  have hkO : w.heap.size < w7.heap.size := Nat.lt_of_lt_of_le hR6.lt hb7.size
  simp only [ordA] at hO8 hDq hTq hRq
  simp only [oOf, eOf, Option.getD_some, Option.isSome_some, if_true, ordA]
  obtain ⟨k, hk⟩ : ∃ k, w.heap.size = k := ⟨_, rfl⟩
  rw [hk] at hRq hDq hkO
  rw [hk]
  obtain ⟨kO, hkO2⟩ : ∃ kO, w7.heap.size = kO := ⟨_, rfl⟩
  rw [hkO2] at hO8 hkO
  clear hD6 hT6 hL6 hR6 hb8 hp hi6 hBt6 hBt
  go_upto_region 8 with (fail)
  try rw [hkO2]
  obtain ⟨wq, hwq⟩ : ∃ wq, wq = w7.alloc (.cells #[.int .i64 12, .int .i64 oa, .int .i64 ob, .int .i64 oc] 41) := ⟨_, rfl⟩
  rw [<- hwq] at hO8 hDq hTq hRq
  rw [<- hwq]
  clear hwq hb7 hkO2
  have hOA := OrdAt.lt (o := ⟨12, oa, ob, oc⟩) hO8
  obtain ⟨f0, f1, f2, f3, e0, e1, e2, e3⟩ := OrdAt.facts (o := ⟨12, oa, ob, oc⟩) hO8
  dsimp only at e0 e1 e2 e3
  clear f0 f1 f2 f3
  subst hq
  obtain ⟨A, c, K0, v2, v3, v4, v5, v6, v7, v8, v9, v10, v11, v12, v13, v14, v15, hv, hb, hc, hrA, hK⟩ := hDq.at_
  dsimp only at hv hb hc hrA hK
  obtain rfl : K0 = none := hK
  have hc16 : wq.cell? ⟨g, 16, none⟩ = some (.pointer none) := hb.cell 16
  clear hv hb hc hrA
  go_wp2_with fail
  refine (rno_ans 7 _).mono ?_
  rintro e w9 ⟨rfl, hb9⟩
  have hD9 := RDeskAt.below hDq hb9
  have hT9 := hTq.after hb9 hTq.size
  have hR9 := RpAt.below hRq hb9 (RpAt.lt hRq)
  have c0 := hR9.cell0
  have c1 := hR9.cell1
  have f0 := hR9.frozen 0
  have f1 := hR9.frozen 1
  clear hDq hTq hRq hb9
  have HE := hd_ (rtell_end (a := 0) (b := 0) (c := 7) (m := 0) hD9 hall hown hT9 hk)
  have HR := hd_ hR9
  clear hD9 hT9 hR9
  go_wp2_with fail
  refine bodyPost_ret (ans_end rfl rfl HR.out) rfl ?_
  exact HE.out
set_option maxRecDepth 100000 in
theorem rtell_commit1 (Bt : Nat) (G : Nat -> Prop) (g : Nat) (p : Port) (was : Option Port) (ac : Nat) (s : ByteArray) (w : World) (hD : RDeskAt w G g ⟨p, was, ac⟩) (hST : SpaceTab Bt w) (hBt : Bt <= w.heap.size) (hgB : Bt <= g) (hs : s.size <= maxLen) (h250 : ac < 250) {oa ob oc : Int} (hp : parseL s.data.toList = some ⟨11, oa, ob, oc⟩) (q : Port) (hq : was = some q) :
    Calls Tryz.prog 19 #[.pointer (some ⟨g, 0, none⟩), .string s] w (RetRD G g (.agg #[.int .i64 (0), .int .i64 (0)]) ⟨p, none, ac + 1⟩ w) := by
  have hgl := hD.lt
  have hall := hD.all
  have hown := hD.own
  have hr6 := OneRow.of_cell w ⟨g, 17, none⟩ (.int .i64 ((ac : Int) + 1))
  have hsz6 := hr6.size
  have hD6 := rdS (rdesk_acts hD) #[.int .i64 0, .int .i64 0]
  have hR6 := RpAt.new (w.setCell ⟨g, 17, none⟩ (.int .i64 ((ac : Int) + 1))) 0 0
  have hT6 : Tn g w ((w.setCell ⟨g, 17, none⟩ (.int .i64 ((ac : Int) + 1))).alloc (.cells #[.int .i64 0, .int .i64 0] 29)) := (Tn.of_one hr6).trans (Tn.of_below ((Below.refl _ _).alloc (Nat.le_refl _) _))
  have hL6 := Lib.TabBelow.on hST (hT6.below hgB hBt)
  have hBt6 := Nat.le_trans hBt hT6.size
  dsimp only at hsz6 hD6
  rw [hsz6] at hD6 hR6
  have hc17 : w.cell? ⟨g, 17, none⟩ = some (.int .i64 ac) := by
    obtain ⟨A, c, K0, v2, v3, v4, v5, v6, v7, v8, v9, v10, v11, v12, v13, v14, v15, hv, hb, -⟩ := hD.at_
    exact hb.cell 17
  have hf17 : w.frozen? ⟨g, 17, none⟩ = false := by
    obtain ⟨A, c, K0, v2, v3, v4, v5, v6, v7, v8, v9, v10, v11, v12, v13, v14, v15, hv, hb, -⟩ := hD.at_
    exact hb.frozen 17
  have hi6 : (ac : Int) < 250 := by omega
  have d250 : ((ac : Int) == 250) = false := by simp; omega
  have hwr : IntKind.i64.wrap ((ac : Int) + 1) = (ac : Int) + 1 := IntWalk.i64_in _ (by omega)
  clear hD hr6 hST hsz6
  obtain ⟨W6, hW6⟩ : ∃ W6, W6 = (w.setCell ⟨g, 17, none⟩ (.int .i64 ((ac : Int) + 1))).alloc (.cells #[.int .i64 0, .int .i64 0] 29) := ⟨_, rfl⟩
  rw [<- hW6] at hD6 hT6 hL6 hR6 hBt6
  go_enter Tryz.func19, Tryz.ntmps19
  go_wp2_with fail
  rw [<- hW6]
  clear hW6 hc17 hf17 d250 hwr
  refine (refParse_any Bt s W6 hBt6 hL6 hs).mono ?_
  rintro e w7 ⟨rfl, hb7⟩
  rw [hp]
  have hO8 := OrdAt.new w7 ⟨11, oa, ob, oc⟩
  have hb8 := hb7.trans ((Below.refl W6.heap.size w7).alloc hb7.size (.cells (ordA ⟨11, oa, ob, oc⟩) 41))
  have hDq := hD6.below hb8
  have hTq := hT6.after hb8 hT6.size
  have hRq := hR6.below hb8 hR6.lt
  have hkO : w.heap.size < w7.heap.size := Nat.lt_of_lt_of_le hR6.lt hb7.size
  simp only [ordA] at hO8 hDq hTq hRq
  simp only [oOf, eOf, Option.getD_some, Option.isSome_some, if_true, ordA]
  obtain ⟨k, hk⟩ : ∃ k, w.heap.size = k := ⟨_, rfl⟩
  rw [hk] at hRq hDq hkO
  rw [hk]
  obtain ⟨kO, hkO2⟩ : ∃ kO, w7.heap.size = kO := ⟨_, rfl⟩
  rw [hkO2] at hO8 hkO
  clear hD6 hT6 hL6 hR6 hb8 hp hi6 hBt6 hBt
  go_upto_region 8 with (fail)
  try rw [hkO2]
  obtain ⟨wq, hwq⟩ : ∃ wq, wq = w7.alloc (.cells #[.int .i64 11, .int .i64 oa, .int .i64 ob, .int .i64 oc] 41) := ⟨_, rfl⟩
  rw [<- hwq] at hO8 hDq hTq hRq
  rw [<- hwq]
  clear hwq hb7 hkO2
  have hOA := OrdAt.lt (o := ⟨11, oa, ob, oc⟩) hO8
  obtain ⟨f0, f1, f2, f3, e0, e1, e2, e3⟩ := OrdAt.facts (o := ⟨11, oa, ob, oc⟩) hO8
  dsimp only at e0 e1 e2 e3
  clear f0 f1 f2 f3
  subst hq
  obtain ⟨A, c, K0, v2, v3, v4, v5, v6, v7, v8, v9, v10, v11, v12, v13, v14, v15, hv, hb, hc, hrA, hK⟩ := hDq.at_
  dsimp only at hv hb hc hrA hK
  obtain ⟨k2, rfl, -⟩ := hK
  have hc16 : wq.cell? ⟨g, 16, none⟩ = some (.pointer (some ⟨k2, 0, none⟩)) := hb.cell 16
  have hf16 := hb.frozen 16
  have hD9 := rdesk_drop hDq
  have hT3 := hTq.trans (Tn.of_one (OneRow.of_cell wq ⟨g, 16, none⟩ (.pointer none)))
  have hR3 : RpAt _ k 0 0 := ((OneRow.of_cell wq ⟨g, 16, none⟩ (.pointer none)).block k (by show k ≠ g; omega)).trans hRq
  dsimp only at hD9
  clear hDq hTq hRq hv hb hc hrA
  have hDq := hD9
  have hTq := hT3
  have hRq := hR3
  clear hD9 hT3 hR3
  go_wp2_with fail
  refine (rno_ans 0 _).mono ?_
  rintro e w9 ⟨rfl, hb9⟩
  have hD9 := RDeskAt.below hDq hb9
  have hT9 := hTq.after hb9 hTq.size
  have hR9 := RpAt.below hRq hb9 (RpAt.lt hRq)
  have c0 := hR9.cell0
  have c1 := hR9.cell1
  have f0 := hR9.frozen 0
  have f1 := hR9.frozen 1
  clear hDq hTq hRq hb9
  have HE := hd_ (rtell_end (a := 0) (b := 0) (c := 0) (m := 0) hD9 hall hown hT9 hk)
  have HR := hd_ hR9
  clear hD9 hT9 hR9
  go_wp2_with fail
  refine bodyPost_ret (ans_end rfl rfl HR.out) rfl ?_
  exact HE.out
set_option maxRecDepth 100000 in
theorem rtell_begin1 (Bt : Nat) (G : Nat -> Prop) (g : Nat) (p : Port) (was : Option Port) (ac : Nat) (s : ByteArray) (w : World) (hD : RDeskAt w G g ⟨p, was, ac⟩) (hST : SpaceTab Bt w) (hBt : Bt <= w.heap.size) (hgB : Bt <= g) (hs : s.size <= maxLen) (h250 : ac < 250) {oa ob oc : Int} (hp : parseL s.data.toList = some ⟨10, oa, ob, oc⟩) (hq : was = none) (hg : PGood p) :
    Calls Tryz.prog 19 #[.pointer (some ⟨g, 0, none⟩), .string s] w (RetRD G g (.agg #[.int .i64 (0), .int .i64 (0)]) ⟨p, some p, ac + 1⟩ w) := by
  have hgl := hD.lt
  have hall := hD.all
  have hown := hD.own
  have hr6 := OneRow.of_cell w ⟨g, 17, none⟩ (.int .i64 ((ac : Int) + 1))
  have hsz6 := hr6.size
  have hD6 := rdS (rdesk_acts hD) #[.int .i64 0, .int .i64 0]
  have hR6 := RpAt.new (w.setCell ⟨g, 17, none⟩ (.int .i64 ((ac : Int) + 1))) 0 0
  have hT6 : Tn g w ((w.setCell ⟨g, 17, none⟩ (.int .i64 ((ac : Int) + 1))).alloc (.cells #[.int .i64 0, .int .i64 0] 29)) := (Tn.of_one hr6).trans (Tn.of_below ((Below.refl _ _).alloc (Nat.le_refl _) _))
  have hL6 := Lib.TabBelow.on hST (hT6.below hgB hBt)
  have hBt6 := Nat.le_trans hBt hT6.size
  dsimp only at hsz6 hD6
  rw [hsz6] at hD6 hR6
  have hc17 : w.cell? ⟨g, 17, none⟩ = some (.int .i64 ac) := by
    obtain ⟨A, c, K0, v2, v3, v4, v5, v6, v7, v8, v9, v10, v11, v12, v13, v14, v15, hv, hb, -⟩ := hD.at_
    exact hb.cell 17
  have hf17 : w.frozen? ⟨g, 17, none⟩ = false := by
    obtain ⟨A, c, K0, v2, v3, v4, v5, v6, v7, v8, v9, v10, v11, v12, v13, v14, v15, hv, hb, -⟩ := hD.at_
    exact hb.frozen 17
  have hi6 : (ac : Int) < 250 := by omega
  have d250 : ((ac : Int) == 250) = false := by simp; omega
  have hwr : IntKind.i64.wrap ((ac : Int) + 1) = (ac : Int) + 1 := IntWalk.i64_in _ (by omega)
  clear hD hr6 hST hsz6
  obtain ⟨W6, hW6⟩ : ∃ W6, W6 = (w.setCell ⟨g, 17, none⟩ (.int .i64 ((ac : Int) + 1))).alloc (.cells #[.int .i64 0, .int .i64 0] 29) := ⟨_, rfl⟩
  rw [<- hW6] at hD6 hT6 hL6 hR6 hBt6
  go_enter Tryz.func19, Tryz.ntmps19
  go_wp2_with fail
  rw [<- hW6]
  clear hW6 hc17 hf17 d250 hwr
  refine (refParse_any Bt s W6 hBt6 hL6 hs).mono ?_
  rintro e w7 ⟨rfl, hb7⟩
  rw [hp]
  have hO8 := OrdAt.new w7 ⟨10, oa, ob, oc⟩
  have hb8 := hb7.trans ((Below.refl W6.heap.size w7).alloc hb7.size (.cells (ordA ⟨10, oa, ob, oc⟩) 41))
  have hDq := hD6.below hb8
  have hTq := hT6.after hb8 hT6.size
  have hRq := hR6.below hb8 hR6.lt
  have hkO : w.heap.size < w7.heap.size := Nat.lt_of_lt_of_le hR6.lt hb7.size
  simp only [ordA] at hO8 hDq hTq hRq
  simp only [oOf, eOf, Option.getD_some, Option.isSome_some, if_true, ordA]
  obtain ⟨k, hk⟩ : ∃ k, w.heap.size = k := ⟨_, rfl⟩
  rw [hk] at hRq hDq hkO
  rw [hk]
  obtain ⟨kO, hkO2⟩ : ∃ kO, w7.heap.size = kO := ⟨_, rfl⟩
  rw [hkO2] at hO8 hkO
  clear hD6 hT6 hL6 hR6 hb8 hp hi6 hBt6 hBt
  go_upto_region 8 with (fail)
  try rw [hkO2]
  obtain ⟨wq, hwq⟩ : ∃ wq, wq = w7.alloc (.cells #[.int .i64 10, .int .i64 oa, .int .i64 ob, .int .i64 oc] 41) := ⟨_, rfl⟩
  rw [<- hwq] at hO8 hDq hTq hRq
  rw [<- hwq]
  clear hwq hb7 hkO2
  have hOA := OrdAt.lt (o := ⟨10, oa, ob, oc⟩) hO8
  obtain ⟨f0, f1, f2, f3, e0, e1, e2, e3⟩ := OrdAt.facts (o := ⟨10, oa, ob, oc⟩) hO8
  dsimp only at e0 e1 e2 e3
  clear f0 f1 f2 f3
  subst hq
  obtain ⟨A, c, K0, v2, v3, v4, v5, v6, v7, v8, v9, v10, v11, v12, v13, v14, v15, hv, hb, hc, hrA, hK⟩ := hDq.at_
  dsimp only at hv hb hc hrA hK
  obtain rfl : K0 = none := hK
  have hc16 : wq.cell? ⟨g, 16, none⟩ = some (.pointer none) := hb.cell 16
  have hlen := hg.len
  have hCP := fun w hi => copyP_any p A c w hi (by unfold maxLen; omega) (by omega)
  rw [hv] at hCP
  have HCP := hd_ hCP
  have hgq : g < wq.heap.size := RkBox.lt hb
  have hin : InP wq p A := hrA.1
  clear hCP hv hrA hc
  go_upto_region 22 with (first
    | (refine wpList_load_in rfl rfl (by first | rfl | simp [aE, aP]) hb rfl ?_)
    | (go_at_call 44; refine (HCP.out _ hin).mono ?_; rintro e w2 ⟨A2, c2, rfl, ho2, hb2⟩; have hZ8 := PortAt.new w2 Port.zero none 0)
    | (refine wSP rfl rfl (by first | rfl | simp [aE, aP]) (by first | rfl | simp [aE, aP]) hZ8 ?_; intro w3 h3 hr3))
  have hb23 : Below w2.heap.size w2 w3 := ((Below.refl _ _).alloc (Nat.le_refl _) _).trans (hr3.below (Nat.le_refl _))
  have hb3 : Below wq.heap.size wq w3 := hb2.trans (hb23.mono hb2.size)
  have ho3 := oBl ho2 hb23
  have hst : RPIn w3 (GR G k) w2.heap.size p := ⟨A2, c2, h3, ownK_cap ho3, Row.fresh (Sl.of_own ho3) (ownK_fr ho3) hDq.all⟩
  have hD9 := rdesk_keep hDq hb3 hb2.size hst
  have hd3 := RkBox.below hb hb3 hgq
  have hc163 : w3.cell? ⟨g, 16, none⟩ = some (.pointer none) := hd3.cell 16
  have hf163 := hd3.frozen 16
  have hT3 := (hTq.after hb3 hTq.size).trans (Tn.of_one (OneRow.of_cell w3 ⟨g, 16, none⟩ (.pointer (some ⟨w2.heap.size, 0, none⟩))))
  have hR3 : RpAt _ k 0 0 := ((OneRow.of_cell w3 ⟨g, 16, none⟩ (.pointer (some ⟨w2.heap.size, 0, none⟩))).block k (by show k ≠ g; omega)).trans (hRq.below hb3 (RpAt.lt hRq))
  dsimp only at hD9
  clear hDq hTq hRq hb hc16 hr3 hb3 h3 hst hd3 e0 e1 e2 e3 hO8 hOA ho2 ho3 hb23 hb2 hin HCP hZ8
  have hDq := hD9
  have hTq := hT3
  have hRq := hR3
  clear hD9 hT3 hR3
  go_wp2_with fail
  refine (rno_ans 0 _).mono ?_
  rintro e w9 ⟨rfl, hb9⟩
  have hD9 := RDeskAt.below hDq hb9
  have hT9 := hTq.after hb9 hTq.size
  have hR9 := RpAt.below hRq hb9 (RpAt.lt hRq)
  have c0 := hR9.cell0
  have c1 := hR9.cell1
  have f0 := hR9.frozen 0
  have f1 := hR9.frozen 1
  clear hDq hTq hRq hb9
  have HE := hd_ (rtell_end (a := 0) (b := 0) (c := 0) (m := 0) hD9 hall hown hT9 hk)
  have HR := hd_ hR9
  clear hD9 hT9 hR9
  go_wp2_with fail
  refine bodyPost_ret (ans_end rfl rfl HR.out) rfl ?_
  exact HE.out
set_option maxRecDepth 100000 in
theorem rtell_undo1 (Bt : Nat) (G : Nat -> Prop) (g : Nat) (p : Port) (was : Option Port) (ac : Nat) (s : ByteArray) (w : World) (hD : RDeskAt w G g ⟨p, was, ac⟩) (hST : SpaceTab Bt w) (hBt : Bt <= w.heap.size) (hgB : Bt <= g) (hs : s.size <= maxLen) (h250 : ac < 250) {oa ob oc : Int} (hp : parseL s.data.toList = some ⟨12, oa, ob, oc⟩) (q : Port) (hq : was = some q) :
    Calls Tryz.prog 19 #[.pointer (some ⟨g, 0, none⟩), .string s] w (RetRD G g (.agg #[.int .i64 (0), .int .i64 (0)]) ⟨q, none, ac + 1⟩ w) := by
  have hgl := hD.lt
  have hall := hD.all
  have hown := hD.own
  have hr6 := OneRow.of_cell w ⟨g, 17, none⟩ (.int .i64 ((ac : Int) + 1))
  have hsz6 := hr6.size
  have hD6 := rdS (rdesk_acts hD) #[.int .i64 0, .int .i64 0]
  have hR6 := RpAt.new (w.setCell ⟨g, 17, none⟩ (.int .i64 ((ac : Int) + 1))) 0 0
  have hT6 : Tn g w ((w.setCell ⟨g, 17, none⟩ (.int .i64 ((ac : Int) + 1))).alloc (.cells #[.int .i64 0, .int .i64 0] 29)) := (Tn.of_one hr6).trans (Tn.of_below ((Below.refl _ _).alloc (Nat.le_refl _) _))
  have hL6 := Lib.TabBelow.on hST (hT6.below hgB hBt)
  have hBt6 := Nat.le_trans hBt hT6.size
  dsimp only at hsz6 hD6
  rw [hsz6] at hD6 hR6
  have hc17 : w.cell? ⟨g, 17, none⟩ = some (.int .i64 ac) := by
    obtain ⟨A, c, K0, v2, v3, v4, v5, v6, v7, v8, v9, v10, v11, v12, v13, v14, v15, hv, hb, -⟩ := hD.at_
    exact hb.cell 17
  have hf17 : w.frozen? ⟨g, 17, none⟩ = false := by
    obtain ⟨A, c, K0, v2, v3, v4, v5, v6, v7, v8, v9, v10, v11, v12, v13, v14, v15, hv, hb, -⟩ := hD.at_
    exact hb.frozen 17
  have hi6 : (ac : Int) < 250 := by omega
  have d250 : ((ac : Int) == 250) = false := by simp; omega
  have hwr : IntKind.i64.wrap ((ac : Int) + 1) = (ac : Int) + 1 := IntWalk.i64_in _ (by omega)
  clear hD hr6 hST hsz6
  obtain ⟨W6, hW6⟩ : ∃ W6, W6 = (w.setCell ⟨g, 17, none⟩ (.int .i64 ((ac : Int) + 1))).alloc (.cells #[.int .i64 0, .int .i64 0] 29) := ⟨_, rfl⟩
  rw [<- hW6] at hD6 hT6 hL6 hR6 hBt6
  go_enter Tryz.func19, Tryz.ntmps19
  go_wp2_with fail
  rw [<- hW6]
  clear hW6 hc17 hf17 d250 hwr
  refine (refParse_any Bt s W6 hBt6 hL6 hs).mono ?_
  rintro e w7 ⟨rfl, hb7⟩
  rw [hp]
  have hO8 := OrdAt.new w7 ⟨12, oa, ob, oc⟩
  have hb8 := hb7.trans ((Below.refl W6.heap.size w7).alloc hb7.size (.cells (ordA ⟨12, oa, ob, oc⟩) 41))
  have hDq := hD6.below hb8
  have hTq := hT6.after hb8 hT6.size
  have hRq := hR6.below hb8 hR6.lt
  have hkO : w.heap.size < w7.heap.size := Nat.lt_of_lt_of_le hR6.lt hb7.size
  simp only [ordA] at hO8 hDq hTq hRq
  simp only [oOf, eOf, Option.getD_some, Option.isSome_some, if_true, ordA]
  obtain ⟨k, hk⟩ : ∃ k, w.heap.size = k := ⟨_, rfl⟩
  rw [hk] at hRq hDq hkO
  rw [hk]
  obtain ⟨kO, hkO2⟩ : ∃ kO, w7.heap.size = kO := ⟨_, rfl⟩
  rw [hkO2] at hO8 hkO
  clear hD6 hT6 hL6 hR6 hb8 hp hi6 hBt6 hBt
  go_upto_region 8 with (fail)
  try rw [hkO2]
  obtain ⟨wq, hwq⟩ : ∃ wq, wq = w7.alloc (.cells #[.int .i64 12, .int .i64 oa, .int .i64 ob, .int .i64 oc] 41) := ⟨_, rfl⟩
  rw [<- hwq] at hO8 hDq hTq hRq
  rw [<- hwq]
  clear hwq hb7 hkO2
  have hOA := OrdAt.lt (o := ⟨12, oa, ob, oc⟩) hO8
  obtain ⟨f0, f1, f2, f3, e0, e1, e2, e3⟩ := OrdAt.facts (o := ⟨12, oa, ob, oc⟩) hO8
  dsimp only at e0 e1 e2 e3
  clear f0 f1 f2 f3
  subst hq
  obtain ⟨A, c, K0, v2, v3, v4, v5, v6, v7, v8, v9, v10, v11, v12, v13, v14, v15, hv, hb, hc, hrA, hK⟩ := hDq.at_
  dsimp only at hv hb hc hrA hK
  have hc16 : wq.cell? ⟨g, 16, none⟩ = some (.pointer K0) := hb.cell 16
  obtain ⟨k2, rfl, hn2, A2, c2, h2, hc2, hrA2⟩ := hK
  obtain ⟨z0, z1, z2, z3, z4, z5, z6, z7, z8, z9, z10, z11, z12, z13, z14, z15, hz, hzo⟩ := port_vs1 q A2 c2
  have h2' : BoxAt wq k2 #[z0, z1, z2, z3, z4, z5, z6, z7, z8, z9, z10, z11, z12, z13, z14, z15] := by rw [<- hz]; exact h2
  have HZ := hd_ hz
  clear hv hrA hz hc
  go_upto_region 30 with (first
    | (refine wpList_load_box rfl rfl ?hx h2' rfl ?_; (case hx => first | rfl | (simp [aE, aP]; done)))
    | (refine wpList_store_rk rfl rfl (by first | rfl | simp [aE, aP]) (by first | rfl | simp [aE, aP]) hb hzo ?_; intro w3 h3 hr3))
  have hs : ∀ b, b < wq.heap.size -> ¬ GR G k b -> w3.heap[b]? = wq.heap[b]? := fun b _ hn => hr3.block b fun e => hn (.inl (by rw [e]; exact hown))
  have hDX : RDeskAt w3 (GR G k) g ⟨q, some q, ac + 1⟩ := by
    have hz := HZ.out
    obtain ⟨rfl, rfl⟩ := portA_head hz
    exact ⟨.inl hown, fun b hb => Nat.lt_of_lt_of_le (hDq.all b hb) (Nat.le_of_eq hr3.size.symm), A2, c2, _, z2, z3, z4, z5, z6, z7, z8, z9, z10, z11, z12, z13, z14, z15, hz, h3, hc2, hrA2.same hs, ⟨k2, rfl, hn2, A2, c2, (hs k2 h2.lt hn2).trans h2, hc2, hrA2.same hs⟩⟩
  have hD9 := rdesk_drop hDX
  have hc163 : w3.cell? ⟨g, 16, none⟩ = _ := h3.cell 16
  have hf163 := h3.frozen 16
  have hT3 := (hTq.trans (Tn.of_one hr3)).trans (Tn.of_one (OneRow.of_cell w3 ⟨g, 16, none⟩ (.pointer none)))
  have hR3 : RpAt _ k 0 0 := ((OneRow.of_cell w3 ⟨g, 16, none⟩ (.pointer none)).block k (by show k ≠ g; omega)).trans ((hr3.block k (by omega)).trans hRq)
  dsimp only at hD9
  clear hDq hTq hRq hb h2 h2' hrA2 hs hDX h3 hr3 hc16 hzo HZ e0 e1 e2 e3 hO8 hOA
  have hDq := hD9
  have hTq := hT3
  have hRq := hR3
  clear hD9 hT3 hR3
  go_wp2_with fail
  refine (rno_ans 0 _).mono ?_
  rintro e w9 ⟨rfl, hb9⟩
  have hD9 := RDeskAt.below hDq hb9
  have hT9 := hTq.after hb9 hTq.size
  have hR9 := RpAt.below hRq hb9 (RpAt.lt hRq)
  have c0 := hR9.cell0
  have c1 := hR9.cell1
  have f0 := hR9.frozen 0
  have f1 := hR9.frozen 1
  clear hDq hTq hRq hb9
  have HE := hd_ (rtell_end (a := 0) (b := 0) (c := 0) (m := 0) hD9 hall hown hT9 hk)
  have HR := hd_ hR9
  clear hD9 hT9 hR9
  go_wp2_with fail
  refine bodyPost_ret (ans_end rfl rfl HR.out) rfl ?_
  exact HE.out
section
variable {o : Oper} {a : Act} {w : World} {Q : Exit -> Act -> World -> Prop} {K : Act -> World -> Prop}
theorem oper_store_rp {x y : Operand} {k : Nat} {c n c' n' : Int} (ho : o.op = .store 29 x y) (hx : a.eval x = .pointer (some ⟨k, 0, none⟩)) (hy : a.eval y = .agg #[.int .i64 c', .int .i64 n']) (hf : RpAt w k c n)
    (h : ∀ w', RpAt w' k c' n' -> OneRow k w w' -> K (a.put o.dst undef) w') : o.wp Tryz.prog a w K Q :=
  have h := h _ (setRow_heap w k _ #[.int .i64 c', .int .i64 n'] _ _ hf) (OneRow.of_row w k _)
  wp_store_row _ x y ho k _ hx hy _ _ hf reply_sz rfl (by simp [Value.oneCell']) h
end
theorem rtell_end2 {w W W' : World} {g k : Nat} {G : Nat -> Prop} {d : Desk} {m : Int} (hD : RDeskAt W (GR G k) g d) (hG : ∀ b, G b -> b < w.heap.size) (hg : G g) (hT : Tn g w W) (hk : w.heap.size = k) (hr : OneRow k W W') :
    RetRD G g (.agg #[.int .i64 0, .int .i64 m]) d w (.returned (.agg #[.int .i64 0, .int .i64 m])) W' := by
  have hgk : g ≠ k := by have := hG g hg; omega
  have h1 := hD.one hr (.inr rfl) hgk
  exact ⟨rfl, h1.more hg (fun b hb => by have := h1.all b (.inl hb); exact this) fun b hb => .inl hb, hT.row hr (Nat.le_of_eq hk)⟩
theorem RDeskAt.drewN {w : World} {G : Nat -> Prop} {g : Nat} {d : Desk} (h : RDeskAt w G g d) (n : Nat) : RDeskAt (w.drewN n) G g d := h.below (bdN (Below.refl _ _) n)
set_option maxRecDepth 100000 in
theorem rtell_wait0 (Bt : Nat) (G : Nat -> Prop) (g : Nat) (p : Port) (was : Option Port) (ac : Nat) (s : ByteArray) (w : World) (hD : RDeskAt w G g ⟨p, was, ac⟩) (hST : SpaceTab Bt w) (hBt : Bt <= w.heap.size) (hgB : Bt <= g) (hs : s.size <= maxLen) (h250 : ac < 250) {oa ob oc : Int} (hp : parseL s.data.toList = some ⟨9, oa, ob, oc⟩) (hg : PGood p) (hn : i64 oa) (hw : oa < 1 \/ 300 - p.now <= oa) :
    Calls Tryz.prog 19 #[.pointer (some ⟨g, 0, none⟩), .string s] w (RetRD G g (.agg #[.int .i64 (2), .int .i64 (0)]) ⟨p, was, ac + 1⟩ w) := by
  have hno := hg.now
  have HA := hd_ (show (decide ((1 : Int) <= oa) && decide (oa <= 299 - p.now)) = false by simp; omega)
  have hwx : IntKind.i64.wrap (299 - p.now) = 299 - p.now := IntWalk.i64_in _ (by omega)
  have hwy : wrap64 (299 - p.now) = 299 - p.now := by unfold wrap64; omega
  clear hn hw
  have hgl := hD.lt
  have hall := hD.all
  have hown := hD.own
  have hr6 := OneRow.of_cell w ⟨g, 17, none⟩ (.int .i64 ((ac : Int) + 1))
  have hsz6 := hr6.size
  have hD6 := rdS (rdesk_acts hD) #[.int .i64 0, .int .i64 0]
  have hR6 := RpAt.new (w.setCell ⟨g, 17, none⟩ (.int .i64 ((ac : Int) + 1))) 0 0
  have hT6 : Tn g w ((w.setCell ⟨g, 17, none⟩ (.int .i64 ((ac : Int) + 1))).alloc (.cells #[.int .i64 0, .int .i64 0] 29)) := (Tn.of_one hr6).trans (Tn.of_below ((Below.refl _ _).alloc (Nat.le_refl _) _))
  have hL6 := Lib.TabBelow.on hST (hT6.below hgB hBt)
  have hBt6 := Nat.le_trans hBt hT6.size
  dsimp only at hsz6 hD6
  rw [hsz6] at hD6 hR6
  have hc17 : w.cell? ⟨g, 17, none⟩ = some (.int .i64 ac) := by
    obtain ⟨A, c, K0, v2, v3, v4, v5, v6, v7, v8, v9, v10, v11, v12, v13, v14, v15, hv, hb, -⟩ := hD.at_
    exact hb.cell 17
  have hf17 : w.frozen? ⟨g, 17, none⟩ = false := by
    obtain ⟨A, c, K0, v2, v3, v4, v5, v6, v7, v8, v9, v10, v11, v12, v13, v14, v15, hv, hb, -⟩ := hD.at_
    exact hb.frozen 17
  have hi6 : (ac : Int) < 250 := by omega
  have d250 : ((ac : Int) == 250) = false := by simp; omega
  have hwr : IntKind.i64.wrap ((ac : Int) + 1) = (ac : Int) + 1 := IntWalk.i64_in _ (by omega)
  clear hD hr6 hST hsz6
  obtain ⟨W6, hW6⟩ : ∃ W6, W6 = (w.setCell ⟨g, 17, none⟩ (.int .i64 ((ac : Int) + 1))).alloc (.cells #[.int .i64 0, .int .i64 0] 29) := ⟨_, rfl⟩
  rw [<- hW6] at hD6 hT6 hL6 hR6 hBt6
  go_enter Tryz.func19, Tryz.ntmps19
  go_wp2_with fail
  rw [<- hW6]
  clear hW6 hc17 hf17 d250 hwr
  refine (refParse_any Bt s W6 hBt6 hL6 hs).mono ?_
  rintro e w7 ⟨rfl, hb7⟩
  rw [hp]
  have hO8 := OrdAt.new w7 ⟨9, oa, ob, oc⟩
  have hb8 := hb7.trans ((Below.refl W6.heap.size w7).alloc hb7.size (.cells (ordA ⟨9, oa, ob, oc⟩) 41))
  have hDq := hD6.below hb8
  have hTq := hT6.after hb8 hT6.size
  have hRq := hR6.below hb8 hR6.lt
  have hkO : w.heap.size < w7.heap.size := Nat.lt_of_lt_of_le hR6.lt hb7.size
  simp only [ordA] at hO8 hDq hTq hRq
  simp only [oOf, eOf, Option.getD_some, Option.isSome_some, if_true, ordA]
  obtain ⟨k, hk⟩ : ∃ k, w.heap.size = k := ⟨_, rfl⟩
  rw [hk] at hRq hDq hkO
  rw [hk]
  obtain ⟨kO, hkO2⟩ : ∃ kO, w7.heap.size = kO := ⟨_, rfl⟩
  rw [hkO2] at hO8 hkO
  clear hD6 hT6 hL6 hR6 hb8 hp hi6 hBt6 hBt
  go_upto_region 8 with (fail)
  try rw [hkO2]
  obtain ⟨wq, hwq⟩ : ∃ wq, wq = w7.alloc (.cells #[.int .i64 9, .int .i64 oa, .int .i64 ob, .int .i64 oc] 41) := ⟨_, rfl⟩
  rw [<- hwq] at hO8 hDq hTq hRq
  rw [<- hwq]
  clear hwq hb7 hkO2
  have hOA := OrdAt.lt (o := ⟨9, oa, ob, oc⟩) hO8
  obtain ⟨f0, f1, f2, f3, e0, e1, e2, e3⟩ := OrdAt.facts (o := ⟨9, oa, ob, oc⟩) hO8
  dsimp only at e0 e1 e2 e3
  clear f0 f1 f2 f3
  obtain ⟨A, c, K0, v2, v3, v4, v5, v6, v7, v8, v9, v10, v11, v12, v13, v14, v15, hv, hb, hc, hrA, hK⟩ := hDq.at_
  dsimp only at hv hb hc hrA hK
  have x0 : wq.cell? ⟨g, 0, none⟩ = some (.int .i64 p.now) := hb.cell 0
  clear hv hb hc hrA hK
  go_upto_region 10 with (fail)
  go_quiet ((go_at_call 41; exact Calls.quiet_of_same (wI_ _ HA.out)))
  have hDq := hDq.drewN nq
  have hTq := hTq.drewN nq
  have hRq : RpAt (wq.drewN nq) k 0 0 := hRq
  go_wp2_with fail
  refine (rno_ans 2 _).mono ?_
  rintro e w9 ⟨rfl, hb9⟩
  have hD9 := RDeskAt.below hDq hb9
  have hT9 := hTq.after hb9 hTq.size
  have hR9 := RpAt.below hRq hb9 (RpAt.lt hRq)
  have c0 := hR9.cell0
  have c1 := hR9.cell1
  have f0 := hR9.frozen 0
  have f1 := hR9.frozen 1
  clear hDq hTq hRq hb9
  have HE := hd_ (rtell_end (a := 0) (b := 0) (c := 2) (m := 0) hD9 hall hown hT9 hk)
  have HR := hd_ hR9
  clear hD9 hT9 hR9
  go_wp2_with fail
  refine bodyPost_ret (ans_end rfl rfl HR.out) rfl ?_
  exact HE.out
set_option maxRecDepth 100000 in
theorem rtell_wait1 (Bt : Nat) (G : Nat -> Prop) (g : Nat) (p : Port) (was : Option Port) (ac : Nat) (s : ByteArray) (w : World) (hD : RDeskAt w G g ⟨p, was, ac⟩) (hST : SpaceTab Bt w) (hBt : Bt <= w.heap.size) (hgB : Bt <= g) (hs : s.size <= maxLen) (h250 : ac < 250) {oa ob oc : Int} (hp : parseL s.data.toList = some ⟨9, oa, ob, oc⟩) (hg : Settled p) (hw1 : 1 <= oa) (hw2 : oa < 300 - p.now) :
    Calls Tryz.prog 19 #[.pointer (some ⟨g, 0, none⟩), .string s] w (RetRD G g (.agg #[.int .i64 (0), .int .i64 (0)]) ⟨waitL p oa.toNat, was, ac + 1⟩ w) := by
  have hno := hg.good.now
  obtain ⟨m, rfl⟩ : ∃ m : Nat, oa = m := ⟨oa.toNat, by omega⟩
  rw [Int.toNat_natCast]
  have HA := hd_ (show (decide ((1 : Int) <= (m : Int)) && decide ((m : Int) <= 299 - p.now)) = true by simp; omega)
  have hwx : IntKind.i64.wrap (299 - p.now) = 299 - p.now := IntWalk.i64_in _ (by omega)
  have hwy : wrap64 (299 - p.now) = 299 - p.now := by unfold wrap64; omega
  have HS := hd_ hg
  obtain ⟨T, hT⟩ : ∃ T, p.now = T := ⟨_, rfl⟩
  have HNO := hd_ (show p.now + m < 300 by omega)
  have HTT := hd_ hT
  rw [hT] at hw2 HA hwx hwy hno
  clear hg hT
  have hgl := hD.lt
  have hall := hD.all
  have hown := hD.own
  have hr6 := OneRow.of_cell w ⟨g, 17, none⟩ (.int .i64 ((ac : Int) + 1))
  have hsz6 := hr6.size
  have hD6 := rdS (rdesk_acts hD) #[.int .i64 0, .int .i64 0]
  have hR6 := RpAt.new (w.setCell ⟨g, 17, none⟩ (.int .i64 ((ac : Int) + 1))) 0 0
  have hT6 : Tn g w ((w.setCell ⟨g, 17, none⟩ (.int .i64 ((ac : Int) + 1))).alloc (.cells #[.int .i64 0, .int .i64 0] 29)) := (Tn.of_one hr6).trans (Tn.of_below ((Below.refl _ _).alloc (Nat.le_refl _) _))
  have hL6 := Lib.TabBelow.on hST (hT6.below hgB hBt)
  have hBt6 := Nat.le_trans hBt hT6.size
  dsimp only at hsz6 hD6
  rw [hsz6] at hD6 hR6
  have hc17 : w.cell? ⟨g, 17, none⟩ = some (.int .i64 ac) := by
    obtain ⟨A, c, K0, v2, v3, v4, v5, v6, v7, v8, v9, v10, v11, v12, v13, v14, v15, hv, hb, -⟩ := hD.at_
    exact hb.cell 17
  have hf17 : w.frozen? ⟨g, 17, none⟩ = false := by
    obtain ⟨A, c, K0, v2, v3, v4, v5, v6, v7, v8, v9, v10, v11, v12, v13, v14, v15, hv, hb, -⟩ := hD.at_
    exact hb.frozen 17
  have hi6 : (ac : Int) < 250 := by omega
  have d250 : ((ac : Int) == 250) = false := by simp; omega
  have hwr : IntKind.i64.wrap ((ac : Int) + 1) = (ac : Int) + 1 := IntWalk.i64_in _ (by omega)
  clear hD hr6 hST hsz6
  obtain ⟨W6, hW6⟩ : ∃ W6, W6 = (w.setCell ⟨g, 17, none⟩ (.int .i64 ((ac : Int) + 1))).alloc (.cells #[.int .i64 0, .int .i64 0] 29) := ⟨_, rfl⟩
  rw [<- hW6] at hD6 hT6 hL6 hR6 hBt6
  go_enter Tryz.func19, Tryz.ntmps19
  go_wp2_with fail
  rw [<- hW6]
  clear hW6 hc17 hf17 d250 hwr
  refine (refParse_any Bt s W6 hBt6 hL6 hs).mono ?_
  rintro e w7 ⟨rfl, hb7⟩
  rw [hp]
  have hO8 := OrdAt.new w7 ⟨9, (m : Int), ob, oc⟩
  have hb8 := hb7.trans ((Below.refl W6.heap.size w7).alloc hb7.size (.cells (ordA ⟨9, (m : Int), ob, oc⟩) 41))
  have hDq := hD6.below hb8
  have hTq := hT6.after hb8 hT6.size
  have hRq := hR6.below hb8 hR6.lt
  have hkO : w.heap.size < w7.heap.size := Nat.lt_of_lt_of_le hR6.lt hb7.size
  simp only [ordA] at hO8 hDq hTq hRq
  simp only [oOf, eOf, Option.getD_some, Option.isSome_some, if_true, ordA]
  obtain ⟨k, hk⟩ : ∃ k, w.heap.size = k := ⟨_, rfl⟩
  rw [hk] at hRq hDq hkO
  rw [hk]
  obtain ⟨kO, hkO2⟩ : ∃ kO, w7.heap.size = kO := ⟨_, rfl⟩
  rw [hkO2] at hO8 hkO
  clear hD6 hT6 hL6 hR6 hb8 hp hi6 hBt6 hBt
  go_upto_region 8 with (fail)
  try rw [hkO2]
  obtain ⟨wq, hwq⟩ : ∃ wq, wq = w7.alloc (.cells #[.int .i64 9, .int .i64 (m : Int), .int .i64 ob, .int .i64 oc] 41) := ⟨_, rfl⟩
  rw [<- hwq] at hO8 hDq hTq hRq
  rw [<- hwq]
  clear hwq hb7 hkO2
  have hOA := OrdAt.lt (o := ⟨9, (m : Int), ob, oc⟩) hO8
  obtain ⟨f0, f1, f2, f3, e0, e1, e2, e3⟩ := OrdAt.facts (o := ⟨9, (m : Int), ob, oc⟩) hO8
  dsimp only at e0 e1 e2 e3
  clear f0 f1 f2 f3
  obtain ⟨A, c, K0, v2, v3, v4, v5, v6, v7, v8, v9, v10, v11, v12, v13, v14, v15, hv, hb, hc, hrA, hK⟩ := hDq.at_
  dsimp only at hv hb hc hrA hK
  have x0 : wq.cell? ⟨g, 0, none⟩ = some (.int .i64 T) := by have := hb.cell 0; rw [HTT.out] at this; exact this
  clear hv hb hc hrA hK
  go_upto_region 10 with (fail)
  go_quiet ((go_at_call 41; exact Calls.quiet_of_same (wI_ _ HA.out)))
  have hDq := hDq.drewN nq
  have hTq := hTq.drewN nq
  have hRq : RpAt (wq.drewN nq) k 0 0 := hRq
  have e1' : (wq.drewN nq).cell? ⟨kO, 1, none⟩ = some (.int .i64 m) := e1
  clear x0 e0 e1 e2 e3 hO8
  go_upto_region 13 with (fail)
  have hgk : k ≠ g := by omega
  go_loopw [57] (fun i wr => ∃ j : Nat, j <= m /\ i = .int .i64 j /\ RDeskAt wr (GR G k) g ⟨waitL p j, was, ac + 1⟩ /\ Tn g w wr /\ RpAt wr k 0 0) (fun i _ => m - (intOf i).toNat)
  case atStart => exact ⟨0, Nat.zero_le _, rfl, hDq, hTq, hRq⟩
  case round =>
    clear hDq hTq hRq e1'
    obtain ⟨j, hj, rfl, hDk, hTk, hRk⟩ := hrel
    by_cases hlt : j < m
    · have hset := wait_settled j HS.out (by have := HNO.out; omega)
      obtain ⟨pr, hpr⟩ : ∃ pr, waitL p j = pr := ⟨_, rfl⟩
      have HW := hd_ (show waitL p (j + 1) = nextL (laterL pr) by rw [waitL_succ, hpr])
      rw [hpr] at hDk hset
      have hg := hset.1.good
      have hn1 : pr.now + 1 < 300 := by rw [hset.2.2]; have := HNO.out; omega
      have HLG := hd_ (later_good hg hn1).1
      have HALL := hd_ hDk.all
      obtain ⟨A, c, K0, v2, v3, v4, v5, v6, v7, v8, v9, v10, v11, v12, v13, v14, v15, hv, hb, hc, hrA, hK⟩ := hDk.at_
      dsimp only at hv hb hc hrA hK
      have hL := fun w h => refLater_walk pr A c w hg hc h hn1
      rw [hv] at hL
      have HL := hd_ hL
      have hi0 : InP wr pr A := hrA.1
      have hwlt := hb.lt
      clear hL hg hset hpr hv hDk hn1
      go_wp2_with (refine wpList_load_in rfl rfl (by first | rfl | simp [aE, aP]) hb rfl ?_)
      refine (HL.out _ hi0).mono ?_
      rintro e w1 ⟨A2, c2, rfl, hi2, hc2, hb1, hf2⟩
      dsimp only at hi2 hc2 hf2 ⊢
      obtain ⟨z0, z1, z2, z3, z4, z5, z6, z7, z8, z9, z10, z11, z12, z13, z14, z15, hz, hzo⟩ := port_vs1 (laterL pr) A2 c2
      rw [hz]
      have HZ := hd_ hz
      have hd1 := RkBox.below hb hb1 hwlt
      have hK1 := hK.same (w' := w1) (fun b h _ => hb1.block b h)
      clear hz hb hrA hK hi0 HL
      go_upto_region 15 with (refine wpList_store_rk rfl rfl (by first | rfl | simp [aE, aP]) (by first | rfl | simp [aE, aP]) hd1 hzo ?_; intro w3 hd3 hr3)
      have hD3 := rdesk_next (w0 := wr) (Or.inl hown : GR G k g) HALL.out hb1.size HZ.out hi2 hc2 (hf2 rfl) hK1 hd3 hr3
      have hT3 := (hTk.after hb1 hTk.size).trans (Tn.of_one hr3)
      have hR3 : RpAt w3 k 0 0 := (hr3.block k hgk).trans (RpAt.below hRk hb1 (RpAt.lt hRk))
      clear hd1 hK1 hd3 hr3 hi2 hc2 hf2 hb1 hzo HZ HALL hTk hRk
      go_wp2_with fail
      refine (rdue_any (GR G k) g (laterL pr) was (ac + 1) w3 hD3 HLG.out).mono ?_
      rintro e w4 ⟨rfl, hD4, hT4⟩
      have HD4 := hd_ (show RDeskAt w4 (GR G k) g ⟨waitL p (j + 1), was, ac + 1⟩ by rw [HW.out]; exact hD4)
      have HT4 := hd_ (hT3.trans hT4)
      have HR4 := hd_ (show RpAt w4 k 0 0 from (hT4.block k (RpAt.lt hR3) (fun e => hgk (by injection e))).trans hR3)
      clear hD3 hT3 hR3 hD4 hT4 HW
      go_wp2_with fail
      go_roundw
      case rel => exact ⟨j + 1, by omega, by go_num, HD4.out, HT4.out, HR4.out⟩
      case measure => simp [intOf] <;> omega
    · obtain rfl : j = m := by omega
      have hDq := hDk
      have hTq := hTk
      have hRq := hRk
      clear hDk hTk hRk
      go_wp2_with fail
      refine (rno_ans 0 _).mono ?_
      rintro e w9 ⟨rfl, hb9⟩
      have hD9 := RDeskAt.below hDq hb9
      have hT9 := hTq.after hb9 hTq.size
      have hR9 := RpAt.below hRq hb9 (RpAt.lt hRq)
      have c0 := hR9.cell0
      have c1 := hR9.cell1
      have f0 := hR9.frozen 0
      have f1 := hR9.frozen 1
      clear hDq hTq hRq hb9
      have HE := hd_ (rtell_end (a := 0) (b := 0) (c := 0) (m := 0) hD9 hall hown hT9 hk)
      have HR := hd_ hR9
      clear hD9 hT9 hR9
      go_wp2_with fail
      refine bodyPost_ret (ans_end rfl rfl HR.out) rfl ?_
      exact HE.out
set_option maxRecDepth 100000 in
theorem rtell_ask0 (Bt : Nat) (G : Nat -> Prop) (g : Nat) (p : Port) (was : Option Port) (ac : Nat) (s : ByteArray) (w : World) (hD : RDeskAt w G g ⟨p, was, ac⟩) (hST : SpaceTab Bt w) (hBt : Bt <= w.heap.size) (hgB : Bt <= g) (hs : s.size <= maxLen) (h250 : ac < 250) {oa ob oc : Int} (hp : parseL s.data.toList = some ⟨14, oa, ob, oc⟩) (hg : PGood p) (hw : oa < 0 \/ (p.ships.length : Int) <= oa) :
    Calls Tryz.prog 19 #[.pointer (some ⟨g, 0, none⟩), .string s] w (RetRD G g (.agg #[.int .i64 (3), .int .i64 (0)]) ⟨p, was, ac + 1⟩ w) := by
  have hlen := hg.len
  have HA := hd_ (show (decide ((0 : Int) <= oa) && decide (oa <= (p.ships.length : Int) - 1)) = false by simp; omega)
  have hwx : IntKind.i64.wrap ((p.ships.length : Int) - 1) = (p.ships.length : Int) - 1 := IntWalk.i64_in _ (by omega)
  have hwy : wrap64 ((p.ships.length : Int) - 1) = (p.ships.length : Int) - 1 := by unfold wrap64; omega
  clear hw
  have hgl := hD.lt
  have hall := hD.all
  have hown := hD.own
  have hr6 := OneRow.of_cell w ⟨g, 17, none⟩ (.int .i64 ((ac : Int) + 1))
  have hsz6 := hr6.size
  have hD6 := rdS (rdesk_acts hD) #[.int .i64 0, .int .i64 0]
  have hR6 := RpAt.new (w.setCell ⟨g, 17, none⟩ (.int .i64 ((ac : Int) + 1))) 0 0
  have hT6 : Tn g w ((w.setCell ⟨g, 17, none⟩ (.int .i64 ((ac : Int) + 1))).alloc (.cells #[.int .i64 0, .int .i64 0] 29)) := (Tn.of_one hr6).trans (Tn.of_below ((Below.refl _ _).alloc (Nat.le_refl _) _))
  have hL6 := Lib.TabBelow.on hST (hT6.below hgB hBt)
  have hBt6 := Nat.le_trans hBt hT6.size
  dsimp only at hsz6 hD6
  rw [hsz6] at hD6 hR6
  have hc17 : w.cell? ⟨g, 17, none⟩ = some (.int .i64 ac) := by
    obtain ⟨A, c, K0, v2, v3, v4, v5, v6, v7, v8, v9, v10, v11, v12, v13, v14, v15, hv, hb, -⟩ := hD.at_
    exact hb.cell 17
  have hf17 : w.frozen? ⟨g, 17, none⟩ = false := by
    obtain ⟨A, c, K0, v2, v3, v4, v5, v6, v7, v8, v9, v10, v11, v12, v13, v14, v15, hv, hb, -⟩ := hD.at_
    exact hb.frozen 17
  have hi6 : (ac : Int) < 250 := by omega
  have d250 : ((ac : Int) == 250) = false := by simp; omega
  have hwr : IntKind.i64.wrap ((ac : Int) + 1) = (ac : Int) + 1 := IntWalk.i64_in _ (by omega)
  clear hD hr6 hST hsz6
  obtain ⟨W6, hW6⟩ : ∃ W6, W6 = (w.setCell ⟨g, 17, none⟩ (.int .i64 ((ac : Int) + 1))).alloc (.cells #[.int .i64 0, .int .i64 0] 29) := ⟨_, rfl⟩
  rw [<- hW6] at hD6 hT6 hL6 hR6 hBt6
  go_enter Tryz.func19, Tryz.ntmps19
  go_wp2_with fail
  rw [<- hW6]
  clear hW6 hc17 hf17 d250 hwr
  refine (refParse_any Bt s W6 hBt6 hL6 hs).mono ?_
  rintro e w7 ⟨rfl, hb7⟩
  rw [hp]
  have hO8 := OrdAt.new w7 ⟨14, oa, ob, oc⟩
  have hb8 := hb7.trans ((Below.refl W6.heap.size w7).alloc hb7.size (.cells (ordA ⟨14, oa, ob, oc⟩) 41))
  have hDq := hD6.below hb8
  have hTq := hT6.after hb8 hT6.size
  have hRq := hR6.below hb8 hR6.lt
  have hkO : w.heap.size < w7.heap.size := Nat.lt_of_lt_of_le hR6.lt hb7.size
  simp only [ordA] at hO8 hDq hTq hRq
  simp only [oOf, eOf, Option.getD_some, Option.isSome_some, if_true, ordA]
  obtain ⟨k, hk⟩ : ∃ k, w.heap.size = k := ⟨_, rfl⟩
  rw [hk] at hRq hDq hkO
  rw [hk]
  obtain ⟨kO, hkO2⟩ : ∃ kO, w7.heap.size = kO := ⟨_, rfl⟩
  rw [hkO2] at hO8 hkO
  clear hD6 hT6 hL6 hR6 hb8 hp hi6 hBt6 hBt
  go_upto_region 8 with (fail)
  try rw [hkO2]
  obtain ⟨wq, hwq⟩ : ∃ wq, wq = w7.alloc (.cells #[.int .i64 14, .int .i64 oa, .int .i64 ob, .int .i64 oc] 41) := ⟨_, rfl⟩
  rw [<- hwq] at hO8 hDq hTq hRq
  rw [<- hwq]
  clear hwq hb7 hkO2
  have hOA := OrdAt.lt (o := ⟨14, oa, ob, oc⟩) hO8
  obtain ⟨f0, f1, f2, f3, e0, e1, e2, e3⟩ := OrdAt.facts (o := ⟨14, oa, ob, oc⟩) hO8
  dsimp only at e0 e1 e2 e3
  clear f0 f1 f2 f3
  obtain ⟨A, c, K0, v2, v3, v4, v5, v6, v7, v8, v9, v10, v11, v12, v13, v14, v15, hv, hb, hc, hrA, hK⟩ := hDq.at_
  dsimp only at hv hb hc hrA hK
  have x1 : wq.cell? ⟨g, 1, none⟩ = some (.slice A p.ships.length c) := hb.cell 1
  clear hv hb hc hrA hK
  go_upto_region 39 with (fail)
  go_quiet ((go_at_call 41; exact Calls.quiet_of_same (wI_ _ HA.out)))
  have hDq := hDq.drewN nq
  have hTq := hTq.drewN nq
  have hRq : RpAt (wq.drewN nq) k 0 0 := hRq
  go_wp2_with fail
  refine (rno_ans 3 _).mono ?_
  rintro e w9 ⟨rfl, hb9⟩
  have hD9 := RDeskAt.below hDq hb9
  have hT9 := hTq.after hb9 hTq.size
  have hR9 := RpAt.below hRq hb9 (RpAt.lt hRq)
  have c0 := hR9.cell0
  have c1 := hR9.cell1
  have f0 := hR9.frozen 0
  have f1 := hR9.frozen 1
  clear hDq hTq hRq hb9
  have HE := hd_ (rtell_end (a := 0) (b := 0) (c := 3) (m := 0) hD9 hall hown hT9 hk)
  have HR := hd_ hR9
  clear hD9 hT9 hR9
  go_wp2_with fail
  refine bodyPost_ret (ans_end rfl rfl HR.out) rfl ?_
  exact HE.out
set_option maxRecDepth 100000 in
theorem rtell_ask1 (Bt : Nat) (G : Nat -> Prop) (g : Nat) (p : Port) (was : Option Port) (ac : Nat) (s : ByteArray) (w : World) (hD : RDeskAt w G g ⟨p, was, ac⟩) (hST : SpaceTab Bt w) (hBt : Bt <= w.heap.size) (hgB : Bt <= g) (hs : s.size <= maxLen) (h250 : ac < 250) {oa ob oc : Int} {NN : Int} (hp : parseL s.data.toList = some ⟨14, oa, ob, oc⟩) (hg : PGood p) (hw : 0 <= oa /\ oa < (p.ships.length : Int)) (HNN : Hid (NN = if (p.ship oa.toNat).state = 1 then (thP p).getD oa.toNat (-1) else if (p.ship oa.toNat).state = 3 then (p.ship oa.toNat).since else -1)) :
    Calls Tryz.prog 19 #[.pointer (some ⟨g, 0, none⟩), .string s] w (RetRD G g (.agg #[.int .i64 (0), .int .i64 (NN)]) ⟨p, was, ac + 1⟩ w) := by
  have hlen := hg.len
  obtain ⟨j, rfl⟩ : ∃ j : Nat, oa = j := ⟨oa.toNat, by omega⟩
  rw [Int.toNat_natCast] at HNN
  have hj : j < p.ships.length := by omega
  have HA := hd_ (show (decide ((0 : Int) <= (j : Int)) && decide ((j : Int) <= (p.ships.length : Int) - 1)) = true by simp; omega)
  have hwx : IntKind.i64.wrap ((p.ships.length : Int) - 1) = (p.ships.length : Int) - 1 := IntWalk.i64_in _ (by omega)
  have hwy : wrap64 ((p.ships.length : Int) - 1) = (p.ships.length : Int) - 1 := by unfold wrap64; omega
  clear hw
  have hgl := hD.lt
  have hall := hD.all
  have hown := hD.own
  have hr6 := OneRow.of_cell w ⟨g, 17, none⟩ (.int .i64 ((ac : Int) + 1))
  have hsz6 := hr6.size
  have hD6 := rdS (rdesk_acts hD) #[.int .i64 0, .int .i64 0]
  have hR6 := RpAt.new (w.setCell ⟨g, 17, none⟩ (.int .i64 ((ac : Int) + 1))) 0 0
  have hT6 : Tn g w ((w.setCell ⟨g, 17, none⟩ (.int .i64 ((ac : Int) + 1))).alloc (.cells #[.int .i64 0, .int .i64 0] 29)) := (Tn.of_one hr6).trans (Tn.of_below ((Below.refl _ _).alloc (Nat.le_refl _) _))
  have hL6 := Lib.TabBelow.on hST (hT6.below hgB hBt)
  have hBt6 := Nat.le_trans hBt hT6.size
  dsimp only at hsz6 hD6
  rw [hsz6] at hD6 hR6
  have hc17 : w.cell? ⟨g, 17, none⟩ = some (.int .i64 ac) := by
    obtain ⟨A, c, K0, v2, v3, v4, v5, v6, v7, v8, v9, v10, v11, v12, v13, v14, v15, hv, hb, -⟩ := hD.at_
    exact hb.cell 17
  have hf17 : w.frozen? ⟨g, 17, none⟩ = false := by
    obtain ⟨A, c, K0, v2, v3, v4, v5, v6, v7, v8, v9, v10, v11, v12, v13, v14, v15, hv, hb, -⟩ := hD.at_
    exact hb.frozen 17
  have hi6 : (ac : Int) < 250 := by omega
  have d250 : ((ac : Int) == 250) = false := by simp; omega
  have hwr : IntKind.i64.wrap ((ac : Int) + 1) = (ac : Int) + 1 := IntWalk.i64_in _ (by omega)
  clear hD hr6 hST hsz6
  obtain ⟨W6, hW6⟩ : ∃ W6, W6 = (w.setCell ⟨g, 17, none⟩ (.int .i64 ((ac : Int) + 1))).alloc (.cells #[.int .i64 0, .int .i64 0] 29) := ⟨_, rfl⟩
  rw [<- hW6] at hD6 hT6 hL6 hR6 hBt6
  go_enter Tryz.func19, Tryz.ntmps19
  go_wp2_with fail
  rw [<- hW6]
  clear hW6 hc17 hf17 d250 hwr
  refine (refParse_any Bt s W6 hBt6 hL6 hs).mono ?_
  rintro e w7 ⟨rfl, hb7⟩
  rw [hp]
  have hO8 := OrdAt.new w7 ⟨14, (j : Int), ob, oc⟩
  have hb8 := hb7.trans ((Below.refl W6.heap.size w7).alloc hb7.size (.cells (ordA ⟨14, (j : Int), ob, oc⟩) 41))
  have hDq := hD6.below hb8
  have hTq := hT6.after hb8 hT6.size
  have hRq := hR6.below hb8 hR6.lt
  have hkO : w.heap.size < w7.heap.size := Nat.lt_of_lt_of_le hR6.lt hb7.size
  simp only [ordA] at hO8 hDq hTq hRq
  simp only [oOf, eOf, Option.getD_some, Option.isSome_some, if_true, ordA]
  obtain ⟨k, hk⟩ : ∃ k, w.heap.size = k := ⟨_, rfl⟩
  rw [hk] at hRq hDq hkO
  rw [hk]
  obtain ⟨kO, hkO2⟩ : ∃ kO, w7.heap.size = kO := ⟨_, rfl⟩
  rw [hkO2] at hO8 hkO
  clear hD6 hT6 hL6 hR6 hb8 hp hi6 hBt6 hBt
  go_upto_region 8 with (fail)
  try rw [hkO2]
  obtain ⟨wq, hwq⟩ : ∃ wq, wq = w7.alloc (.cells #[.int .i64 14, .int .i64 (j : Int), .int .i64 ob, .int .i64 oc] 41) := ⟨_, rfl⟩
  rw [<- hwq] at hO8 hDq hTq hRq
  rw [<- hwq]
  clear hwq hb7 hkO2
  have hOA := OrdAt.lt (o := ⟨14, (j : Int), ob, oc⟩) hO8
  obtain ⟨f0, f1, f2, f3, e0, e1, e2, e3⟩ := OrdAt.facts (o := ⟨14, (j : Int), ob, oc⟩) hO8
  dsimp only at e0 e1 e2 e3
  clear f0 f1 f2 f3
  obtain ⟨A, c, K0, v2, v3, v4, v5, v6, v7, v8, v9, v10, v11, v12, v13, v14, v15, hv, hb, hc, hrA, hK⟩ := hDq.at_
  dsimp only at hv hb hc hrA hK
  have x1 : wq.cell? ⟨g, 1, none⟩ = some (.slice A p.ships.length c) := hb.cell 1
  obtain ⟨b, off, hA, hbl, hcells⟩ := ships_at hrA.1 (by omega)
  obtain ⟨d1, d2, d3, d4, d5, d6⟩ := hcells j hj
  clear hcells
  have hst := (hg.ship j hj).1.state
  obtain ⟨x, hx⟩ : ∃ x, p.ship j = x := ⟨_, rfl⟩
  rw [show p.ships.getD j Ship.zero = x from hx] at d1 d2 d3 d4 d5 d6
  rw [hx] at HNN hst
  obtain ⟨st, wd, lg, cl, si, qu⟩ := x
  dsimp only at d1 d2 d3 d4 d5 d6 HNN hst
  subst hA
  clear hx
  go_upto_region 39 with (fail)
  go_quiet ((go_at_call 41; exact Calls.quiet_of_same (wI_ _ HA.out)))
  go_upto_region 41 with (fail)
  have hDz := hDq.drewN nq
  have hTz := hTq.drewN nq
  have hRz : RpAt (wq.drewN nq) k 0 0 := hRq
  have e1z : (wq.drewN nq).cell? ⟨kO, 1, none⟩ = some (.int .i64 j) := e1
  have x1z : (wq.drewN nq).cell? ⟨g, 1, none⟩ = _ := x1
  have d1z : (wq.drewN nq).cell? _ = _ := d1
  have d2z : (wq.drewN nq).cell? _ = _ := d2
  have d3z : (wq.drewN nq).cell? _ = _ := d3
  have d4z : (wq.drewN nq).cell? _ = _ := d4
  have d5z : (wq.drewN nq).cell? _ = _ := d5
  have d6z : (wq.drewN nq).cell? _ = _ := d6
  have hOz : kO < (wq.drewN nq).heap.size := hOA
  have hbz : b < (wq.drewN nq).heap.size := hbl
  have hgz : g < (wq.drewN nq).heap.size := hDz.lt
  have hrAz : InP (wq.drewN nq) p (some ⟨b, off, none⟩) := Sl.drewN hrA.1 nq
  have hkz : RkBox (wq.drewN nq) g _ := hb
  have hO8z : OrdAt (wq.drewN nq) kO ⟨14, (j : Int), ob, oc⟩ := hO8
  obtain ⟨wz, hwz⟩ : ∃ wz, wz = wq.drewN nq := ⟨_, rfl⟩
  rw [<- hwz] at hDz hTz hRz e1z x1z d1z d2z d3z d4z d5z d6z hOz hbz hgz hrAz hkz hO8z
  rw [<- hwz]
  have hgk : k ≠ g := by omega
  have hkk : kO ≠ k := by omega
  clear hwz hDq hTq hRq e0 e1 e2 e3 x1 d1 d2 d3 d4 d5 d6 hOA hbl hrA hb hK hO8
  have hbz : Below wz.heap.size wz (wz.alloc (.cells #[.int .i64 st, .int .i64 wd, .int .i64 lg, .int .i64 cl, .int .i64 si, .int .i64 qu] 61)).drew := ((Below.refl _ _).alloc (Nat.le_refl _) _).drew
  have y0 : (wz.alloc (.cells #[.int .i64 st, .int .i64 wd, .int .i64 lg, .int .i64 cl, .int .i64 si, .int .i64 qu] 61)).drew.cell? ⟨wz.heap.size, 0, none⟩ = some (.int .i64 st) := by
    have := cell_of_row (wz.alloc (.cells #[.int .i64 st, .int .i64 wd, .int .i64 lg, .int .i64 cl, .int .i64 si, .int .i64 qu] 61)) wz.heap.size 0 _ _ _ (heap_alloc_new wz _)
    exact this
  have y4 : (wz.alloc (.cells #[.int .i64 st, .int .i64 wd, .int .i64 lg, .int .i64 cl, .int .i64 si, .int .i64 qu] 61)).drew.cell? ⟨wz.heap.size, 4, none⟩ = some (.int .i64 si) := by
    have := cell_of_row (wz.alloc (.cells #[.int .i64 st, .int .i64 wd, .int .i64 lg, .int .i64 cl, .int .i64 si, .int .i64 qu] 61)) wz.heap.size 4 _ _ _ (heap_alloc_new wz _)
    exact this
  have hDq := hDz.below hbz
  have hTq := hTz.after hbz hTz.size
  have hRq := hRz.below hbz (RpAt.lt hRz)
  have hkq := RkBox.below hkz hbz hgz
  have hOq := OrdAt.below hO8z hbz hOz
  have hiq : InP _ p (some ⟨b, off, none⟩) := Sl.below hrAz hbz
  go_region
  all_goals
    obtain ⟨wy, hwy⟩ : ∃ wy, wy = (wz.alloc (.cells #[.int .i64 st, .int .i64 wd, .int .i64 lg, .int .i64 cl, .int .i64 si, .int .i64 qu] 61)).drew := ⟨_, rfl⟩
    rw [<- hwy] at y0 y4 hDq hTq hRq hkq hOq hiq
    rw [<- hwy]
    obtain ⟨ks, hks⟩ : ∃ ks, wz.heap.size = ks := ⟨_, rfl⟩
    rw [hks] at y0 y4
    try rw [hks]
    clear hwy hks hbz hDz hTz hRz e1z x1z d1z d2z d3z d4z d5z d6z hOz hgz hrAz hkz hO8z
    by_cases h1 : st = 1
    · subst h1
      have HN1 := hd_ (show NN = (thP p).getD j (-1) by rw [HNN.out, if_pos rfl])
      clear HNN y4
      obtain ⟨e0, e1⟩ : wy.cell? ⟨kO, 0, none⟩ = some (.int .i64 14) /\ wy.cell? ⟨kO, 1, none⟩ = some (.int .i64 j) := ⟨hOq.facts.2.2.2.2.1, hOq.facts.2.2.2.2.2.1⟩
      have hPL := fun w hi => planOf_any p (some ⟨b, off, none⟩) c w hg (rankL p) (rankL_is hg) (rank_len p) hi
      rw [hv] at hPL
      have HPL := hd_ hPL
      have HLN := hd_ (plan_len hg)
      clear hPL hv hg
      go_upto_region 44 with (fail)
      refine wRP (S := fun w' => RkBox w' g #[.int .i64 p.now, .slice (some ⟨b, off, none⟩) p.ships.length c, v2, v3, v4, v5, v6, v7, v8, v9, v10, v11, v12, v13, v14, v15, .pointer K0, .int .i64 ((ac + 1 : Nat) : Int)] /\ OrdAt w' kO ⟨14, (j : Int), ob, oc⟩) (.take 0 (.take 1 (.take 2 (.take 3 (.take 5 (.take 6 (.one 4 (.take 7 (.one 8 (.take 9 (.one 10 (.fin)))))))))))) (by kernel_rfl) (by kernel_rfl) ⟨hkq, hOq⟩ ?_
      iterate 3
        refine pT_ (v := ?_) rfl (by rfl) (fun w' hw' => ?_) ?_
        rotate_left
        · go_simp; try with_reducible rfl
        try simp only [aP, lsA, lsB, lsC, lsD, lsE, lsF]
      refine pT_ rfl (by rfl) (fun w' hw' => exec_load_rk rfl rfl hw'.1) ?_
      try simp only [aP, lsA, lsB, lsC, lsD, lsE, lsF]
      refine pT_ (v := ?_) rfl (by rfl) (fun w' hw' => ?_) ?_
      rotate_left
      · go_simp; try with_reducible rfl
      try simp only [aP, lsA, lsB, lsC, lsD, lsE, lsF]
      refine pT_ (v := ?_) rfl (by rfl) (fun w' hw' => ?_) ?_
      rotate_left
      · have x1 : w'.cell? ⟨kO, 1, none⟩ = some (.int .i64 j) := hw'.2.facts.2.2.2.2.2.1
        go_simp; try with_reducible rfl
      try simp only [aP, lsA, lsB, lsC, lsD, lsE, lsF]
      refine pO_ rfl (by rfl) fun K hK => ?_
      go_simp
      go_at_call 22
      refine (HPL.out _ (Sl.drew hiq)).mono ?_
      rintro e w5 ⟨A6, c6, rfl, hs6, hb6, _⟩
      have hB6 : Below wy.heap.size wy w5 := bUn hb6
      have hk5 := RkBox.below hkq hB6 hkq.lt
      have hO5 := OrdAt.below hOq hB6 hOq.lt
      have hD5 := hDq.below hB6
      have hT5 := hTq.after hB6 hTq.size
      have hR5 := hRq.below hB6 (RpAt.lt hRq)
      have hlen : (thP p).length = p.ships.length := HLN.out
      obtain ⟨b6, off6, rfl, hbl6, hc6⟩ := ints_at hs6 (by rw [hlen]; omega)
      have g6 := hc6 j (by rw [hlen]; exact hj)
      have hnd : (thP p).getD j 0 = NN := by
        rw [HN1.out, List.getD_eq_getElem?_getD, List.getD_eq_getElem?_getD, List.getElem?_eq_getElem (by rw [hlen]; exact hj)]; rfl
      rw [hnd] at g6
      rw [hlen]
      refine hK.out _ _ ⟨hk5, hO5⟩ ?_
      clear hK K hc6 hnd hs6 hb6
      try simp only [aP, lsA, lsB, lsC, lsD, lsE, lsF]
      refine pT_ (v := ?_) rfl (by rfl) (fun w' hw' => ?_) ?_
      rotate_left
      · go_simp; try with_reducible rfl
      try simp only [aP, lsA, lsB, lsC, lsD, lsE, lsF]
      refine pO_ rfl (by rfl) fun K hK => ?_
      go_simp
      refine hK.out _ _ ⟨hk5, hO5⟩ ?_
      clear hK K
      try simp only [aP, lsA, lsB, lsC, lsD, lsE, lsF]
      refine pT_ (v := ?_) rfl (by rfl) (fun w' hw' => ?_) ?_
      rotate_left
      · go_simp; try with_reducible rfl
      try simp only [aP, lsA, lsB, lsC, lsD, lsE, lsF]
      refine pO_ rfl (by rfl) fun K hK => ?_
      refine oper_store_rp (c' := 0) (n' := NN) rfl (by first | rfl | simp [aE, aP]) (by first | rfl | simp [aE, aP]) hR5 ?_
      intro w7 hR7 hr7
      refine hK.out _ _ ⟨(hr7.block g (Ne.symm hgk)).trans hk5, (hr7.block kO hkk).trans hO5⟩ ?_
      clear hK K
      try simp only [aP, lsA, lsB, lsC, lsD, lsE, lsF]
      refine pD_ (NoPanic.normal ?_)
      have HE := hd_ (rtell_end2 (m := NN) hD5 hall hown hT5 hk hr7)
      have HR := hd_ hR7
      clear hD5 hT5 hR5 hR7 hk5 hO5
      go_wp2_with fail
      refine bodyPost_ret (ans_at rfl rfl HR.out) rfl ?_
      exact HE.out
    · by_cases h3 : st = 3
      · subst h3
        have HN3 := hd_ (show si = NN by rw [HNN.out, if_neg (by decide), if_pos rfl])
        clear HNN h1
        rw [HN3.out] at y4
        have c0 := hRq.cell0
        have c1 := hRq.cell1
        have f0 := hRq.frozen 0
        have f1 := hRq.frozen 1
        have HE := hd_ (rtell_end (a := 0) (b := 0) (c := 0) (m := NN) hDq hall hown hTq hk)
        have HR := hd_ hRq
        clear hDq hTq hRq
        go_wp2_with fail
        refine bodyPost_ret (ans_end rfl rfl HR.out) rfl ?_
        exact HE.out
      · have m1 : (st == 1) = false := by simpa using h1
        have m3 : (st == 3) = false := by simpa using h3
        obtain rfl : NN = -1 := by rw [HNN.out, if_neg h1, if_neg h3]
        clear HNN h1 h3
        have c0 := hRq.cell0
        have c1 := hRq.cell1
        have f0 := hRq.frozen 0
        have f1 := hRq.frozen 1
        have HE := hd_ (rtell_end (a := 0) (b := 0) (c := 0) (m := (-1)) hDq hall hown hTq hk)
        have HR := hd_ hRq
        clear hDq hTq hRq
        go_wp2_with fail
        refine bodyPost_ret (ans_end rfl rfl HR.out) rfl ?_
        exact HE.out
end Go.Proofs.YtifmdkcpbajdcabGreatDoor

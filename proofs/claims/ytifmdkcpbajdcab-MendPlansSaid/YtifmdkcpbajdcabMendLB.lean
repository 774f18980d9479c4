/- Walks: mend answers at all (the law's own asking). -/
import Derived.Test.YtifmdkcpbajdcabMendsW
import Derived.Test.YtifmdkcpbajdcabRefP6
import Derived.Test.YtifmdkcpbajdcabRefP7V
import Derived.Test.YtifmdkcpbajdcabBox
import Derived.Deep.RegionHeld3
namespace Go.Proofs.Ytifmdkcpbajdcab
open Go.RowKit Go.Proofs Plain

def MendsLawOk : Prop := ∀ w, Calls Try.prog 14 #[] w fun e w' => e = .returned (.bool true) ∧ Below w.heap.size w w'

set_option maxRecDepth 100000 in
set_option maxHeartbeats 8000000 in
theorem mends_law : MendsLawOk := fun w => by
  have hT := tell_one
  have hN := newPort_any
  obtain ⟨n, hm, n0, n1⟩ := one_mend
  have hM := mend_one n hm
  clear hm
  have hlen : oneP.ships.length = 1 := rfl
  generalize oneP = p at *
  have HT := Lib.hid hT
  have HN := Lib.hid hN
  have HM := Lib.hid hM
  clear hT hN hM hlen
  go_enter Try.func14, Try.ntmps14
  go_wp2_with fail
  refine (HN.out _).mono ?_
  rintro e w1 ⟨rfl, hb1⟩
  go_wp2_with fail
  refine (HT.out _).mono ?_
  rintro e w2 ⟨A, c, rfl, hin, hb2⟩
  have hP3 := PortAt.new w2 p A c
  have hin3 : InP (w2.alloc (.cells (portA p A c) 27)) p A := Sl.alloc hin _
  have hb3 : Below w.heap.size w (w2.alloc (.cells (portA p A c) 27)) := (below_go hb1 hb2).alloc (below_go hb1 hb2).size _
  have HM2 := Lib.hid (HM.out A c)
  clear HM HT
  dsimp only at hin ⊢
  generalize portA Port.zero none 0 = zz at *
  obtain ⟨W, hW⟩ : ∃ W, w2.alloc (.cells (portA p A c) 27) = W := ⟨_, rfl⟩
  rw [hW] at hP3 hin3 hb3
  simp only [portA] at hW HM2 ⊢
  go_wp2_with fail
  try rw [hW]
  have k0 := hP3.cell 0
  have k1 := hP3.cell 1
  have k2 := hP3.cell 2
  have k3 := hP3.cell 3
  have k4 := hP3.cell 4
  have k5 := hP3.cell 5
  have k6 := hP3.cell 6
  have k7 := hP3.cell 7
  have k8 := hP3.cell 8
  have k9 := hP3.cell 9
  have k10 := hP3.cell 10
  have k11 := hP3.cell 11
  have k12 := hP3.cell 12
  have k13 := hP3.cell 13
  have k14 := hP3.cell 14
  have k15 := hP3.cell 15
  simp only [portA] at k0 k1 k2 k3 k4 k5 k6 k7 k8 k9 k10 k11 k12 k13 k14 k15
  have hz := PortAt.lt hP3
  clear hW
  go_region_with (first
    | (go_at_call 30; refine (HN.out _).mono ?_; rintro e w5 ⟨rfl, hb5⟩; have hP5 := PortAt.below (p := p) (A := A) (c := c) hP3 (below_undrew hb5) hz; have u0 := hP5.cell 0; have u1 := hP5.cell 1; have u2 := hP5.cell 2; have u3 := hP5.cell 3; have u4 := hP5.cell 4; have u5 := hP5.cell 5; have u6 := hP5.cell 6; have u7 := hP5.cell 7; have u8 := hP5.cell 8; have u9 := hP5.cell 9; have u10 := hP5.cell 10; have u11 := hP5.cell 11; have u12 := hP5.cell 12; have u13 := hP5.cell 13; have u14 := hP5.cell 14; have u15 := hP5.cell 15; simp only [portA] at u0 u1 u2 u3 u4 u5 u6 u7 u8 u9 u10 u11 u12 u13 u14 u15)
    | (go_at_call 15; refine (HM2.out _ (Sl.below hin3 (below_undrew hb5))).mono ?_; rintro e w6 ⟨A6, c6, rfl, h6, hb6, hr6⟩))
  all_goals
    obtain ⟨b6, off6, hA6, hbl6, hc6⟩ := ints_at (l := [0]) h6 (by simp)
    subst hA6
    have e6 : w6.cell? ⟨b6, off6, none⟩ = some (.int .i64 0) := hc6 0 (by simp)
    have d1 : decide (n ≥ 0) = true := by simpa using n0
    have d2 : decide (n ≤ 1) = true := by simpa using n1
    clear hc6
    go_wp2_with fail
    go_ret
    exact ⟨rfl, below_go (below_go hb3 (below_undrew hb5)) hb6⟩
end Go.Proofs.Ytifmdkcpbajdcab

/- Walks: whatever one port was, and another one is: the plan that is mended is that one's plan. -/
namespace Go.Proofs.Ytifmdkcpbajdcab
open Go.RowKit Go.Proofs Plain

/-- What stands while the law asks: two ports' variables. -/
structure ND (w wr : World) (p q : Port) (A B : Option Addr) (vs us : Array Value) (g2 g3 : Nat) : Prop where
  b2 : BoxAt wr g2 vs
  b3 : BoxAt wr g3 us
  in1 : InP wr p A
  in2 : InP wr q B
  below : Below w.heap.size w wr
theorem ND.go {w wr w' : World} {p q : Port} {A B : Option Addr} {vs us : Array Value} {g2 g3 : Nat} (h : ND w wr p q A B vs us g2 g3) (hb : Below wr.heap.size wr w') : ND w w' p q A B vs us g2 g3 :=
  ⟨h.b2.below hb h.b2.lt, h.b3.below hb h.b3.lt, Sl.below h.in1 hb, Sl.below h.in2 hb, below_go h.below hb⟩
theorem ND.drew {w wr : World} {p q : Port} {A B : Option Addr} {vs us : Array Value} {g2 g3 : Nat} (h : ND w wr p q A B vs us g2 g3) : ND w wr.drew p q A B vs us g2 g3 := ⟨h.b2, h.b3, h.in1, h.in2, ⟨h.below.os, h.below.tape, h.below.output, h.below.size, h.below.block⟩⟩

theorem own_in {w : World} {base c : Nat} {A : Option Addr} {p : Port} (h : OwnK w base (.slice A p.ships.length c) p.ships) : InP w p A := Sl.of_own h

theorem mend_for (was now : Port) (w : World) (A1 A2 : Option Addr) (c1 c2 : Nat) (Ap : Option Addr) (cp : Nat) {n : Int} (hn : (mendL was now (thePlan was) (rankL now)).2 = n) (hwas : PGood was) (hnow : PGood now)
    (hin1 : InP w was A1) (hin2 : InP w now A2) (hpl : Sl w 1 Ap (thePlan was).length ((thePlan was).map (Value.int .i64))) :
    Calls Try.prog 15 #[.agg (portA was A1 c1), .agg (portA now A2 c2), .slice Ap (thePlan was).length cp] w (RetMend (thePlan now, n) w) := by
  have := mend_walk was now A1 A2 c1 c2 (thePlan was) Ap cp w hwas hnow (thePlan_is hwas) hin1 hin2 hpl fun w' h => ranked_any now A2 c2 w' hnow h
  have h1 := (mend_spec hwas hnow (thePlan_is hwas) (rankL_is hnow)).1
  rw [planL_the hnow (rankL_is hnow)] at h1
  rwa [Prod.ext (x := mendL was now (thePlan was) (rankL now)) (y := (thePlan now, n)) h1 hn] at this

set_option maxRecDepth 100000 in
set_option maxHeartbeats 40000000 in
theorem mendPlans_walk (hmends : MendsLawOk) (p q : Port) (A1 A2 : Option Addr) (c1 c2 : Nat) (w : World) (hp : PWf p) (hq : PWf q) (hin1 : InP w p A1) (hin2 : InP w q A2)
    (hcap1 : p.ships.length ≤ c1) (hcap2 : q.ships.length ≤ c2) (hre1 : p.ships.length * 48 ≤ 140737488355328) (hre2 : q.ships.length * 48 ≤ 140737488355328) :
    Calls Try.prog 4 #[.agg (portA p A1 c1), .agg (portA q A2 c2)] w fun e w' => e = .returned (.bool true) ∧ Below w.heap.size w w' := by
  have HMS := Lib.hid hmends
  have hI1 := fun w h => isPort_any p A1 c1 w hp hcap1 h
  have hI2 := fun w h => isPort_any q A2 c2 w hq hcap2 h
  have hC1 := fun w h => copyP_any p A1 c1 w h hp.len hre1
  have hC2 := fun w h => copyP_any q A2 c2 w h hq.len hre2
  have hG1 := fun (h : goodP p = true) => (goodP_iff hp.four).1 h
  have hG2 := fun (h : goodP q = true) => (goodP_iff hq.four).1 h
  have hP1 := fun (h : goodP p = true) w hi => planOf_any p A1 c1 w (hG1 h) (rankL p) (rankL_is (hG1 h)) (rank_len p) hi
  have hP2 := fun (h : goodP q = true) w hi => planOf_any q A2 c2 w (hG2 h) (rankL q) (rankL_is (hG2 h)) (rank_len q) hi
  have hR2 := fun (h : goodP q = true) w hi => rankedOf_any q A2 c2 w (hG2 h).toFair (rankL q) (rankL_is (hG2 h)) (rank_len q) hi
  obtain ⟨n, hn⟩ : ∃ n, (mendL p q (thePlan p) (rankL q)).2 = n := ⟨_, rfl⟩
  have HM := Lib.hid (fun (h1 : goodP p = true) (h2 : goodP q = true) w B1 d1 B2 d2 Ap cp i1 i2 i3 => mend_for p q w B1 B2 d1 d2 Ap cp hn (hG1 h1) (hG2 h2) i1 i2 i3)
  have HN := Lib.hid (fun (h1 : goodP p = true) (h2 : goodP q = true) => show 0 ≤ n ∧ n ≤ (rankL q).length by
    have h := (mend_spec (hG1 h1) (hG2 h2) (thePlan_is (hG1 h1)) (rankL_is (hG2 h2))).2
    rwa [hn] at h)
  have HPL := Lib.hid (fun (h : goodP q = true) => show (thePlan q).length ≤ 100000 by rw [plan_len (hG2 h)]; have := (hG2 h).len; omega)
  obtain ⟨v0, v1, v2, v3, v4, v5, v6, v7, v8, v9, v10, v11, v12, v13, v14, v15, hv⟩ := port_vs p A1 c1
  obtain ⟨u0, u1, u2, u3, u4, u5, u6, u7, u8, u9, u10, u11, u12, u13, u14, u15, hu⟩ := port_vs q A2 c2
  rw [hv] at hI1 hC1 hP1 ⊢
  rw [hu] at hI2 hC2 hP2 hR2 ⊢
  have HI1 := Lib.hid hI1
  have HI2 := Lib.hid hI2
  have HC1 := Lib.hid hC1
  have HC2 := Lib.hid hC2
  have HP1 := Lib.hid hP1
  have HP2 := Lib.hid hP2
  have HR2 := Lib.hid hR2
  clear hmends hI1 hI2 hC1 hC2 hG1 hG2 hP1 hP2 hR2 hn hv hu hp hq hcap1 hcap2 hre1 hre2
  have hD0 : ND w ((w.alloc (.cells #[v0, v1, v2, v3, v4, v5, v6, v7, v8, v9, v10, v11, v12, v13, v14, v15] 27)).alloc (.cells #[u0, u1, u2, u3, u4, u5, u6, u7, u8, u9, u10, u11, u12, u13, u14, u15] 27)) p q A1 A2 #[v0, v1, v2, v3, v4, v5, v6, v7, v8, v9, v10, v11, v12, v13, v14, v15] #[u0, u1, u2, u3, u4, u5, u6, u7, u8, u9, u10, u11, u12, u13, u14, u15] w.heap.size (w.heap.size + 1) := by
    have h2 := BoxAt.new (w.alloc (.cells #[v0, v1, v2, v3, v4, v5, v6, v7, v8, v9, v10, v11, v12, v13, v14, v15] 27)) #[u0, u1, u2, u3, u4, u5, u6, u7, u8, u9, u10, u11, u12, u13, u14, u15]
    simp only [World.size_alloc] at h2
    exact ⟨(BoxAt.new w #[v0, v1, v2, v3, v4, v5, v6, v7, v8, v9, v10, v11, v12, v13, v14, v15]).alloc _, h2, Sl.alloc (Sl.alloc hin1 _) _, Sl.alloc (Sl.alloc hin2 _) _, ((Below.refl _ _).alloc (Nat.le_refl _) _).alloc (by simp) _⟩
  clear hin1 hin2
  have hb2 := hD0.b2
  go_enter Try.func4, Try.ntmps4
  go_wp2_with (refine wpList_load_box rfl rfl (by first | rfl | simp [Act.eval, Act.put]) hb2 rfl ?_)
  refine (HI1.out _ hD0.in1).mono ?_
  rintro e w1 ⟨rfl, hb1⟩
  have hD1 := hD0.go hb1
  clear hD0 hb2 hb1
  cases hgp : goodP p with
  | false =>
    clear HM HN HPL HI1 HI2 HC1 HC2 HP1 HP2 HR2
    go_wp2_with fail
    refine (HMS.out _).mono ?_
    rintro e w2 ⟨rfl, hb2⟩
    go_wp2_with fail
    go_ret
    exact ⟨rfl, (hD1.go hb2).below⟩
  | true =>
    have HM2 := Lib.hid (HM.out hgp)
    have HN2 := Lib.hid (HN.out hgp)
    have HP12 := Lib.hid (HP1.out hgp)
    clear HM HN HP1 hgp HI1
    obtain ⟨k0, k1, k2, k3, k4, k5, k6, k7, k8, k9, k10, k11, k12, k13, k14, k15⟩ := BoxAt.all hD1.b3
    go_wp2_with fail
    refine (HI2.out _ hD1.in2).mono ?_
    rintro e w2 ⟨rfl, hb2⟩
    have hD2 := hD1.go hb2
    clear hD1 hb2 k0 k1 k2 k3 k4 k5 k6 k7 k8 k9 k10 k11 k12 k13 k14 k15 HI2
    cases hgq : goodP q with
    | false =>
      clear HM2 HN2 HPL HC1 HC2 HP12 HP2 HR2
      go_wp2_with fail
      refine (HMS.out _).mono ?_
      rintro e w3 ⟨rfl, hb3⟩
      go_wp2_with fail
      go_ret
      exact ⟨rfl, (hD2.go hb3).below⟩
    | true =>
      have HM3 := Lib.hid (HM2.out hgq)
      obtain ⟨n0, n1⟩ := HN2.out hgq
      have HP22 := Lib.hid (HP2.out hgq)
      have HR22 := Lib.hid (HR2.out hgq)
      have HPL2 := Lib.hid (HPL.out hgq)
      clear HM2 HN2 HP2 HR2 HPL hgq
      go_wp2_with fail
      go_cut [5, 6] (fun x5 x6 wq => ∃ A6 c6, x5 = .slice A6 (thePlan q).length c6 ∧ x6 = .int .i64 n ∧ Sl wq 1 A6 (thePlan q).length ((thePlan q).map (Value.int .i64)) ∧ ND w wq p q A1 A2 #[v0, v1, v2, v3, v4, v5, v6, v7, v8, v9, v10, v11, v12, v13, v14, v15] #[u0, u1, u2, u3, u4, u5, u6, u7, u8, u9, u10, u11, u12, u13, u14, u15] w.heap.size (w.heap.size + 1))
      case first => as_aux_lemma =>
        have hD := hD2.drew
        go_region_held3 (fun w' => (w'.cell? ⟨w.heap.size, 0, none⟩ = some v0 ∧ w'.cell? ⟨w.heap.size, 1, none⟩ = some v1 ∧ w'.cell? ⟨w.heap.size, 2, none⟩ = some v2 ∧ w'.cell? ⟨w.heap.size, 3, none⟩ = some v3 ∧ w'.cell? ⟨w.heap.size, 4, none⟩ = some v4 ∧ w'.cell? ⟨w.heap.size, 5, none⟩ = some v5 ∧ w'.cell? ⟨w.heap.size, 6, none⟩ = some v6 ∧ w'.cell? ⟨w.heap.size, 7, none⟩ = some v7 ∧ w'.cell? ⟨w.heap.size, 8, none⟩ = some v8 ∧ w'.cell? ⟨w.heap.size, 9, none⟩ = some v9 ∧ w'.cell? ⟨w.heap.size, 10, none⟩ = some v10 ∧ w'.cell? ⟨w.heap.size, 11, none⟩ = some v11 ∧ w'.cell? ⟨w.heap.size, 12, none⟩ = some v12 ∧ w'.cell? ⟨w.heap.size, 13, none⟩ = some v13 ∧ w'.cell? ⟨w.heap.size, 14, none⟩ = some v14 ∧ w'.cell? ⟨w.heap.size, 15, none⟩ = some v15) ∧ (w'.cell? ⟨w.heap.size + 1, 0, none⟩ = some u0 ∧ w'.cell? ⟨w.heap.size + 1, 1, none⟩ = some u1 ∧ w'.cell? ⟨w.heap.size + 1, 2, none⟩ = some u2 ∧ w'.cell? ⟨w.heap.size + 1, 3, none⟩ = some u3 ∧ w'.cell? ⟨w.heap.size + 1, 4, none⟩ = some u4 ∧ w'.cell? ⟨w.heap.size + 1, 5, none⟩ = some u5 ∧ w'.cell? ⟨w.heap.size + 1, 6, none⟩ = some u6 ∧ w'.cell? ⟨w.heap.size + 1, 7, none⟩ = some u7 ∧ w'.cell? ⟨w.heap.size + 1, 8, none⟩ = some u8 ∧ w'.cell? ⟨w.heap.size + 1, 9, none⟩ = some u9 ∧ w'.cell? ⟨w.heap.size + 1, 10, none⟩ = some u10 ∧ w'.cell? ⟨w.heap.size + 1, 11, none⟩ = some u11 ∧ w'.cell? ⟨w.heap.size + 1, 12, none⟩ = some u12 ∧ w'.cell? ⟨w.heap.size + 1, 13, none⟩ = some u13 ∧ w'.cell? ⟨w.heap.size + 1, 14, none⟩ = some u14 ∧ w'.cell? ⟨w.heap.size + 1, 15, none⟩ = some u15))
          (exact ⟨BoxAt.all hD.b2, BoxAt.all hD.b3⟩)
          (first
            | (go_at_call 16; refine (HC1.out _ hD.in1).mono ?_; rintro e w5 ⟨B1, d1, rfl, ho1, hb5⟩; have hD := hD.go hb5; have hi1 := own_in ho1; try have hi2 := Sl.below hi2 hb5; try have h5 := h5.below hb5)
            | (go_at_call 16; refine (HC2.out _ hD.in2).mono ?_; rintro e w5 ⟨B2, d2, rfl, ho2, hb5⟩; have hD := hD.go hb5; have hi2 := own_in ho2; try have hi1 := Sl.below hi1 hb5; try have h5 := h5.below hb5)
            | (go_at_call 17; refine (HP12.out _ hD.in1).mono ?_; rintro e w5 ⟨A5, c5, rfl, h5, hb5, _⟩; have hD := hD.go hb5; try have hi1 := Sl.below hi1 hb5; try have hi2 := Sl.below hi2 hb5)
            | (go_at_call 15; refine (HM3.out _ B1 d1 B2 d2 _ _ hi1 hi2 h5).mono ?_; rintro e w6 ⟨A6, c6, rfl, h6, hb6, hr6⟩; have hD := hD.go hb6))
        all_goals
          go_wp2_with fail
          go_meet
          exact ⟨A6, c6, rfl, rfl, h6, hD⟩
      clear hD2 HC1 HC2 HP12 HM3
      obtain ⟨A6, c6, rfl, rfl, h6, hD⟩ := hcut
      have hb3 := hD.b3
      go_wp2_with (refine wpList_load_box rfl rfl (by first | rfl | simp [Act.eval, Act.put]) hb3 rfl ?_)
      refine (HP22.out _ hD.in2).mono ?_
      rintro e w7 ⟨A7, c7, rfl, h7, hb7, _⟩
      have hD7 := hD.go hb7
      have h67 := h6.below hb7
      clear hD hb3 h6 hb7 HP22
      go_wp2_with fail
      refine (sameInts_any (thePlan q) (thePlan q) A6 A7 c6 c7 _ h67 h7 HPL2.out HPL2.out).mono ?_
      rintro e w8 ⟨rfl, hb8⟩
      rw [show decide (thePlan q = thePlan q) = true by simp]
      have hD8 := hD7.go hb8
      clear hD7 h67 h7 hb8
      have d0 : decide (n ≥ 0) = true := by simpa using n0
      obtain ⟨k0, k1, k2, k3, k4, k5, k6, k7, k8, k9, k10, k11, k12, k13, k14, k15⟩ := BoxAt.all hD8.b3
      go_wp2_with fail
      refine (HR22.out _ hD8.in2).mono ?_
      rintro e w9 ⟨A9, c9, rfl, h9, hb9, _⟩
      rw [natsI_len]
      have hD9 := hD8.go hb9
      clear hD8 h9 hb9 k0 k1 k2 k3 k4 k5 k6 k7 k8 k9 k10 k11 k12 k13 k14 k15
      have d1 : decide (n ≤ ((rankL q).length : Int)) = true := by simpa using n1
      go_wp2_with fail
      refine (HMS.out _).mono ?_
      rintro e w10 ⟨rfl, hb10⟩
      go_wp2_with fail
      go_ret
      exact ⟨rfl, (hD9.go hb10).below⟩
end Go.Proofs.Ytifmdkcpbajdcab

/- Walks: mend answers at all. -/
import Derived.Test.YtifmdkcpbajdcabMendP
import Derived.Test.YtifmdkcpbajdcabPortsW
namespace Go.Proofs.Ytifmdkcpbajdcab
open Go.RowKit Go.Proofs Plain

def MendsOk : Prop := ∀ w, Calls Try.prog 20 #[] w fun e w' => e = .returned (.bool true) ∧ Below w.heap.size w w'

theorem zero_plan : IsPlan Port.zero [] := ⟨rfl, fun i hi => absurd hi (by simp [Port.zero]), fun i hi => absurd hi (by simp [Port.zero])⟩

theorem one_mend : ∃ n, mendL Port.zero oneP [] (rankL oneP) = ([0], n) ∧ 0 ≤ n ∧ n ≤ 1 := by
  obtain ⟨h1, h2, h3⟩ := mend_spec zero_good one_good zero_plan (rankL_is one_good)
  have h4 := rank_len oneP
  have h5 : oneP.ships.length = 1 := rfl
  rw [planL_the one_good (rankL_is one_good), one_plan] at h1
  exact ⟨(mendL Port.zero oneP [] (rankL oneP)).2, Prod.ext h1 rfl, h2, by omega⟩

theorem mend_one (n : Int) (h : mendL Port.zero oneP [] (rankL oneP) = ([0], n)) (A : Option Addr) (c : Nat) (w : World) (hin : InP w oneP A) :
    Calls Try.prog 15 #[.agg (portA Port.zero none 0), .agg (portA oneP A c), .slice none 0 0] w (RetMend ([0], n) w) := by
  have := mend_walk Port.zero oneP none A 0 c [] none 0 w zero_good one_good zero_plan (Sl.zero _ _ _) hin (Sl.zero _ _ _) fun w' h => ranked_any oneP A c w' one_good h
  rwa [h] at this

set_option maxRecDepth 100000 in
set_option maxHeartbeats 8000000 in
theorem mends_keep : MendsOk := fun w => by
  have hT := tell_one
  have hN := newPort_any
  obtain ⟨n, hm, n0, n1⟩ := one_mend
  have hM := mend_one n hm
  clear hm
  have hlen : oneP.ships.length = 1 := rfl
  generalize oneP = p at *
  have HT := Lib.hid hT
  have HN := Lib.hid hN
  have HM := Lib.hid hM
  clear hT hN hM hlen
  go_enter Try.func20, Try.ntmps20
  go_wp2_with fail
  refine (HN.out _).mono ?_
  rintro e w1 ⟨rfl, hb1⟩
  go_wp2_with fail
  refine (HT.out _).mono ?_
  rintro e w2 ⟨A, c, rfl, hin, hb2⟩
  have hP3 := PortAt.new w2 p A c
  have hin3 : InP (w2.alloc (.cells (portA p A c) 27)) p A := Sl.alloc hin _
  have hb3 : Below w.heap.size w (w2.alloc (.cells (portA p A c) 27)) := (below_go hb1 hb2).alloc (below_go hb1 hb2).size _
  have HM2 := Lib.hid (HM.out A c)
  clear HM HT
  dsimp only at hin ⊢
  generalize portA Port.zero none 0 = zz at *
  obtain ⟨W, hW⟩ : ∃ W, w2.alloc (.cells (portA p A c) 27) = W := ⟨_, rfl⟩
  rw [hW] at hP3 hin3 hb3
  simp only [portA] at hW HM2 ⊢
  go_wp2_with fail
  try rw [hW]
  have k0 := hP3.cell 0
  have k1 := hP3.cell 1
  have k2 := hP3.cell 2
  have k3 := hP3.cell 3
  have k4 := hP3.cell 4
  have k5 := hP3.cell 5
  have k6 := hP3.cell 6
  have k7 := hP3.cell 7
  have k8 := hP3.cell 8
  have k9 := hP3.cell 9
  have k10 := hP3.cell 10
  have k11 := hP3.cell 11
  have k12 := hP3.cell 12
  have k13 := hP3.cell 13
  have k14 := hP3.cell 14
  have k15 := hP3.cell 15
  simp only [portA] at k0 k1 k2 k3 k4 k5 k6 k7 k8 k9 k10 k11 k12 k13 k14 k15
  have hz := PortAt.lt hP3
  clear hW
  go_region_with (first
    | (go_at_call 30; refine (HN.out _).mono ?_; rintro e w5 ⟨rfl, hb5⟩; have hP5 := PortAt.below (p := p) (A := A) (c := c) hP3 (below_undrew hb5) hz; have u0 := hP5.cell 0; have u1 := hP5.cell 1; have u2 := hP5.cell 2; have u3 := hP5.cell 3; have u4 := hP5.cell 4; have u5 := hP5.cell 5; have u6 := hP5.cell 6; have u7 := hP5.cell 7; have u8 := hP5.cell 8; have u9 := hP5.cell 9; have u10 := hP5.cell 10; have u11 := hP5.cell 11; have u12 := hP5.cell 12; have u13 := hP5.cell 13; have u14 := hP5.cell 14; have u15 := hP5.cell 15; simp only [portA] at u0 u1 u2 u3 u4 u5 u6 u7 u8 u9 u10 u11 u12 u13 u14 u15)
    | (go_at_call 15; refine (HM2.out _ (Sl.below hin3 (below_undrew hb5))).mono ?_; rintro e w6 ⟨A6, c6, rfl, h6, hb6, hr6⟩))
  all_goals
    obtain ⟨b6, off6, hA6, hbl6, hc6⟩ := ints_at (l := [0]) h6 (by simp)
    subst hA6
    have e6 : w6.cell? ⟨b6, off6, none⟩ = some (.int .i64 0) := hc6 0 (by simp)
    have d1 : decide (n ≥ 0) = true := by simpa using n0
    have d2 : decide (n ≤ 1) = true := by simpa using n1
    clear hc6
    go_wp2_with fail
    go_ret
    exact ⟨rfl, below_go (below_go hb3 (below_undrew hb5)) hb6⟩
end Go.Proofs.Ytifmdkcpbajdcab

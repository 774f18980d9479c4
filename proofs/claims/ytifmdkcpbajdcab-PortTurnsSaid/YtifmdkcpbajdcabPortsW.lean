/- Walks: port answers at all. -/
import Derived.Test.YtifmdkcpbajdcabPlanB
import Derived.Test.YtifmdkcpbajdcabTellR
import Derived.Test.YtifmdkcpbajdcabPlain
import Derived.Test.YtifmdkcpbajdcabPortsDef
set_option linter.unusedVariables false
set_option linter.unusedSimpArgs false
namespace Go.Proofs.Ytifmdkcpbajdcab
open Go.RowKit Go.Proofs Plain

theorem one_tellOk : TellOk Port.zero oneO := fun A c g base w hP ho hog hb hw => by
  have := tell_come Port.zero A c g base 4 9 0 w hP ho hog hb hw (by decide) (by decide) (by decide) (by decide) (by decide)
  rw [one_tell1]
  exact this

theorem tell_one (w : World) : Calls Try.prog 21 #[.agg (portA Port.zero none 0), .agg (orderA oneO)] w (RetTellP (oneP, 0, 0) w) := by
  have := tell_good_walk Port.zero none 0 oneO w zero_good (Sl.zero _ _ _) one_tellOk
  rwa [one_tell] at this

set_option maxRecDepth 100000 in
set_option maxHeartbeats 8000000 in
theorem ports_keep : PortsOk := fun w => by
  have hT := tell_one
  obtain ⟨hg, hl, hpl⟩ := one_goodP
  generalize oneP = p at *
  have HG := Lib.hid hg
  have HGP := Lib.hid ((goodP_iff hg.four).2 hg)
  have HW := Lib.hid (fair_wf hg.toFair)
  have HPL := Lib.hid hpl
  have HT := Lib.hid hT
  have HL := Lib.hid hl
  clear hT hg hpl hl
  go_enter Try.func9, Try.ntmps9
  go_wp2_with fail
  refine (newPort_any _).mono ?_
  rintro e w1 ⟨rfl, hb1⟩
  go_wp2_with fail
  refine (HT.out _).mono ?_
  rintro e w2 ⟨A, c, rfl, hin, hb2⟩
  have hP3 := PortAt.new w2 p A c
  have hin3 : InP (w2.alloc (.cells (portA p A c) 27)) p A := Sl.alloc hin _
  have hb3 : Below w.heap.size w (w2.alloc (.cells (portA p A c) 27)) := (below_go hb1 hb2).alloc (below_go hb1 hb2).size _
  dsimp only at hin ⊢
  generalize portA Port.zero none 0 = zz
  simp only [portA] at hP3 hb3 hin3 ⊢
  go_wp2_with (refine wpList_load_port (p := p) (A := A) (c := c) rfl rfl (by first | rfl | simp [Act.eval, Act.put]) hP3 ?_)
  refine (plan_any p A c _ HG.out hin3).mono ?_
  rintro e w4 ⟨A4, c4, rfl, h4, hb4, hr4⟩
  have hP4 := PortAt.below (p := p) (A := A) (c := c) hP3 hb4 (by simp)
  have hin4 := Sl.below hin3 hb4
  have hb5 := below_go hb3 hb4
  rw [HPL.out] at h4 ⊢
  obtain ⟨b3, off3, hA3, hbl3, hc3⟩ := ints_at (l := [0]) h4 (by simp)
  subst hA3
  have e3 : w4.cell? ⟨b3, off3, none⟩ = some (.int .i64 0) := hc3 0 (by simp)
  clear hP3 hb3 hin3 hc3
  have k0 := hP4.cell 0
  have k1 := hP4.cell 1
  have k2 := hP4.cell 2
  have k3 := hP4.cell 3
  have k4 := hP4.cell 4
  have k5 := hP4.cell 5
  have k6 := hP4.cell 6
  have k7 := hP4.cell 7
  have k8 := hP4.cell 8
  have k9 := hP4.cell 9
  have k10 := hP4.cell 10
  have k11 := hP4.cell 11
  have k12 := hP4.cell 12
  have k13 := hP4.cell 13
  have k14 := hP4.cell 14
  have k15 := hP4.cell 15
  simp only [portA] at k0 k1 k2 k3 k4 k5 k6 k7 k8 k9 k10 k11 k12 k13 k14 k15
  go_wp2_with fail
  refine (good_port p A c _ HW.out hin4).mono ?_
  rintro e w6 ⟨rfl, hb6⟩
  rw [HGP.out]
  go_wp2_with fail
  go_ret
  exact ⟨rfl, below_go hb5 hb6⟩
end Go.Proofs.Ytifmdkcpbajdcab

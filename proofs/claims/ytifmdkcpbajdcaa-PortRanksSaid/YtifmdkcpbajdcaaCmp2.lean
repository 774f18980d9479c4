/- Walks: the order by class, then by the queue. -/
import Derived.Test.YtifmdkcpbajdcaaCmp
namespace Go.Proofs.Ytifmdkcpbajdcaa
open Go.RowKit Go.Proofs Plain

set_option maxRecDepth 100000 in
set_option maxHeartbeats 8000000 in
theorem byRank_any (p : Port) (A : Option Addr) (c g i j : Nat) (w : World) (hP : PortAt w g p A c) (hin : InP w p A) (hi : i < p.ships.length) (hj : j < p.ships.length) :
    Calls Try.prog 48 #[.int .i64 i, .int .i64 j, .pointer (some ⟨g, 0, none⟩)] w fun e w' => e = .returned (.int .i64 (cfI (p.ship i) (p.ship j))) ∧ ∃ q os, w' = Sort.grow (w.drewN q) os := by
  have q1 := hP.ships
  have hglt := hP.lt
  obtain ⟨b, off, hA, hbl, hcells⟩ := ships_at hin (by omega)
  subst hA
  obtain ⟨d1, d2, d3, d4, d5, d6⟩ := hcells i hi
  obtain ⟨f1, f2, f3, f4, f5, f6⟩ := hcells j hj
  clear hcells
  change w.cell? _ = some (.int .i64 (p.ship i).state) at d1
  change w.cell? _ = some (.int .i64 (p.ship i).wide) at d2
  change w.cell? _ = some (.int .i64 (p.ship i).long) at d3
  change w.cell? _ = some (.int .i64 (p.ship i).cls) at d4
  change w.cell? _ = some (.int .i64 (p.ship i).since) at d5
  change w.cell? _ = some (.int .i64 (p.ship i).queued) at d6
  change w.cell? _ = some (.int .i64 (p.ship j).state) at f1
  change w.cell? _ = some (.int .i64 (p.ship j).wide) at f2
  change w.cell? _ = some (.int .i64 (p.ship j).long) at f3
  change w.cell? _ = some (.int .i64 (p.ship j).cls) at f4
  change w.cell? _ = some (.int .i64 (p.ship j).since) at f5
  change w.cell? _ = some (.int .i64 (p.ship j).queued) at f6
  generalize p.ship i = x at *
  generalize p.ship j = y at *
  obtain ⟨xs, xw, xl, xc, xi, xq⟩ := x
  obtain ⟨ys, yw, yl, yc, yi, yq⟩ := y
  dsimp only at *
  go_enter Try.func48, Try.ntmps48
  go_upto_region 1 with fail
  go_cut [6, 7] (fun v6 v7 wc => ∃ g1 g2 q os, v6 = .pointer (some ⟨g1, 0, none⟩) ∧ v7 = .pointer (some ⟨g2, 0, none⟩) ∧ wc = Sort.grow (w.drewN q) os ∧ (wc.cell? ⟨g1, 3, none⟩ = some (.int .i64 xc) ∧ wc.cell? ⟨g1, 5, none⟩ = some (.int .i64 xq)) ∧ wc.cell? ⟨g2, 3, none⟩ = some (.int .i64 yc) ∧ wc.cell? ⟨g2, 5, none⟩ = some (.int .i64 yq))
  case first =>
    go_region
    all_goals
      go_wp2_with fail
      go_meet
      exact ⟨_, _, 1, _, rfl, rfl, two_allocs w _ _, ⟨by simp, by simp⟩, by simp, by simp⟩
  case rest =>
    obtain ⟨g1, g2, q, os, rfl, rfl, hw, ⟨c1, c2⟩, c3, c4⟩ := hcut
    have hgw : Grew w wc := ⟨q, os, hw⟩
    clear hw
    go_wp2_with fail
    go_region_held3 (fun w' => Grew w w' ∧ w'.cell? ⟨g1, 3, none⟩ = some (.int .i64 xc) ∧ w'.cell? ⟨g1, 5, none⟩ = some (.int .i64 xq) ∧ w'.cell? ⟨g2, 3, none⟩ = some (.int .i64 yc) ∧ w'.cell? ⟨g2, 5, none⟩ = some (.int .i64 yq)) (simp [*, grew_drew, grew_alloc, World.cell?_alloc_some, World.cell?_setCell_far])
      (first
        | (go_at_call 50; with_reducible refine (compare_any _ _ _).mono ?_; rintro e w' ⟨rfl, rfl⟩)
        | (go_at_call 49; with_reducible refine (or_new _ _ _ _).mono ?_; rintro e w' ⟨rfl, rfl⟩))
    go_wp2_with fail
    go_ret
    exact ⟨rfl, grew_drew (grew_alloc _ hgw)⟩
end Go.Proofs.Ytifmdkcpbajdcaa

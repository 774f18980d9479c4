/- Walks: comparing numbers; the order by class, then by the queue. -/
import Derived.Test.YtifmdkcpbajdcabPortMem
import Derived.Test.YtifmdkcpbajdcabPlain
import Derived.Deep.RegionWith
import Derived.Deep.DeepCutAuto
import Derived.Deep.RegionHeld3
import Derived.Sort.Grow
namespace Go.Proofs.Ytifmdkcpbajdcab
open Go.RowKit Go.Proofs Plain

theorem nan_any (x : Int) (w : World) : Calls Try.prog 64 #[.int .i64 x] w fun e w' => e = .returned (.bool false) ∧ w' = w := by
  go_enter Try.func64, Try.ntmps64
  go_wp2_with fail
  go_ret
  exact ⟨ret_bool (by simp), rfl⟩

theorem compare_any (x y : Int) (w : World) : Calls Try.prog 54 #[.int .i64 x, .int .i64 y] w fun e w' => e = .returned (.int .i64 (cmpI x y)) ∧ w' = w := by
  by_cases h : x < y
  · have HC := Lib.hid (show cmpI x y = -1 by unfold cmpI; rw [if_pos h])
    go_enter Try.func54, Try.ntmps54
    go_wp2_with (go_at_call 64; refine (nan_any _ _).mono ?_; rintro e w' ⟨rfl, rfl⟩)
    go_ret
    exact ⟨ret_int HC.out.symm, rfl⟩
  · by_cases h2 : y < x
    · have HC := Lib.hid (show cmpI x y = 1 by unfold cmpI; rw [if_neg h, if_pos h2])
      go_enter Try.func54, Try.ntmps54
      go_wp2_with (go_at_call 64; refine (nan_any _ _).mono ?_; rintro e w' ⟨rfl, rfl⟩)
      go_ret
      exact ⟨ret_int HC.out.symm, rfl⟩
    · have HC := Lib.hid (show cmpI x y = 0 by unfold cmpI; rw [if_neg h, if_neg h2])
      go_enter Try.func54, Try.ntmps54
      go_wp2_with (go_at_call 64; refine (nan_any _ _).mono ?_; rintro e w' ⟨rfl, rfl⟩)
      go_ret
      exact ⟨ret_int HC.out.symm, rfl⟩

theorem or_any (a b : Int) (g c : Nat) (w : World) (h0 : w.cell? ⟨g, 0, none⟩ = some (.int .i64 a)) (h1 : w.cell? ⟨g, 1, none⟩ = some (.int .i64 b)) :
    Calls Try.prog 53 #[.slice (some ⟨g, 0, none⟩) 2 c] w fun e w' => e = .returned (.int .i64 (orI a b)) ∧ w' = w := by
  have HO := Lib.hid (show orI a b = if a = 0 then b else a from rfl)
  go_enter Try.func53, Try.ntmps53
  go_wp2_with fail
  go_loopw [8] (fun i wr => ∃ k : Nat, k ≤ 2 ∧ i = .int .i64 k ∧ wr = w ∧ (0 < k → a = 0) ∧ (1 < k → b = 0)) (fun i _ => 2 - (intOf i).toNat)
  case atStart => exact ⟨0, by omega, rfl, rfl, fun h => absurd h (by omega), fun h => absurd h (by omega)⟩
  case round =>
    obtain ⟨k, hk, rfl, rfl, ha, hb⟩ := hrel
    rcases (by omega : k = 0 ∨ k = 1 ∨ k = 2) with rfl | rfl | rfl
    · by_cases e : a = 0
      · clear ha hb
        have e' : (a == 0) = true := by simpa using e
        go_wp2_with fail
        go_roundw
        case rel => exact ⟨1, by omega, by go_num, by trivial, fun _ => e, fun h => absurd h (by omega)⟩
        case measure => simp [intOf] <;> omega
      · have e' : (a == 0) = false := by simpa using e
        have HR := Lib.hid (show orI a b = a by rw [HO.out, if_neg e])
        clear ha hb e
        go_wp2_with fail
        go_ret
        exact ⟨ret_int HR.out.symm, rfl⟩
    · have e := ha (by omega)
      by_cases f : b = 0
      · clear ha hb
        go_wp2_with fail
        go_roundw
        case rel => exact ⟨2, by omega, by go_num, by trivial, fun _ => e, fun _ => f⟩
        case measure => simp [intOf] <;> omega
      · have f' : (b == 0) = false := by simpa using f
        have HR := Lib.hid (show orI a b = b by rw [HO.out, if_pos e])
        clear ha hb f
        go_wp2_with fail
        go_ret
        exact ⟨ret_int HR.out.symm, rfl⟩
    · have HR := Lib.hid (show orI a b = 0 by rw [HO.out, if_pos (ha (by omega)), hb (by omega)])
      clear ha hb
      go_wp2_with fail
      go_ret
      exact ⟨ret_int HR.out.symm, rfl⟩

theorem two_allocs (w : World) (a b : Obj) : ((w.alloc a).alloc b).drew = Sort.grow (w.drewN 1) #[a, b] := by
  rw [Sort.alloc_eq_grow, Sort.alloc_eq_grow, Sort.grow_grow]; rfl

theorem or_new (a b : Int) (W : World) (T : TypeId) :
    Calls Try.prog 53 #[.slice (some ⟨W.heap.size, 0, none⟩) 2 2] (W.alloc (.cells #[.int .i64 a, .int .i64 b] T)).drew fun e w' => e = .returned (.int .i64 (orI a b)) ∧ w' = (W.alloc (.cells #[.int .i64 a, .int .i64 b] T)).drew :=
  or_any a b W.heap.size 2 _ (by show (W.alloc _).cell? _ = _; rw [cell_of_row _ W.heap.size 0 _ _ _ (heap_alloc_new W _)]; rfl) (by show (W.alloc _).cell? _ = _; rw [cell_of_row _ W.heap.size 1 _ _ _ (heap_alloc_new W _)]; rfl)

/-- The world with more draws and more blocks. -/
def Grew (w w' : World) : Prop := ∃ q os, w' = Sort.grow (w.drewN q) os
theorem grew_drew {w a : World} (h : Grew w a) : Grew w a.drew := by
  obtain ⟨q, os, rfl⟩ := h; exact ⟨q + 1, os, rfl⟩
theorem grew_alloc {w a : World} (o : Obj) (h : Grew w a) : Grew w (a.alloc o) := by
  obtain ⟨q, os, rfl⟩ := h; exact ⟨q, os ++ #[o], by rw [Sort.alloc_eq_grow, Sort.grow_grow]⟩

end Go.Proofs.Ytifmdkcpbajdcab

/- Walks: the order by class, then by the queue. -/
namespace Go.Proofs.Ytifmdkcpbajdcab
open Go.RowKit Go.Proofs Plain

set_option maxRecDepth 100000 in
set_option maxHeartbeats 8000000 in
theorem byRank_any (p : Port) (A : Option Addr) (c g i j : Nat) (w : World) (hP : PortAt w g p A c) (hin : InP w p A) (hi : i < p.ships.length) (hj : j < p.ships.length) :
    Calls Try.prog 52 #[.int .i64 i, .int .i64 j, .pointer (some ⟨g, 0, none⟩)] w fun e w' => e = .returned (.int .i64 (cfI (p.ship i) (p.ship j))) ∧ ∃ q os, w' = Sort.grow (w.drewN q) os := by
  have q1 := hP.ships
  have hglt := hP.lt
  obtain ⟨b, off, hA, hbl, hcells⟩ := ships_at hin (by omega)
  subst hA
  obtain ⟨d1, d2, d3, d4, d5, d6⟩ := hcells i hi
  obtain ⟨f1, f2, f3, f4, f5, f6⟩ := hcells j hj
  clear hcells
  change w.cell? _ = some (.int .i64 (p.ship i).state) at d1
  change w.cell? _ = some (.int .i64 (p.ship i).wide) at d2
  change w.cell? _ = some (.int .i64 (p.ship i).long) at d3
  change w.cell? _ = some (.int .i64 (p.ship i).cls) at d4
  change w.cell? _ = some (.int .i64 (p.ship i).since) at d5
  change w.cell? _ = some (.int .i64 (p.ship i).queued) at d6
  change w.cell? _ = some (.int .i64 (p.ship j).state) at f1
  change w.cell? _ = some (.int .i64 (p.ship j).wide) at f2
  change w.cell? _ = some (.int .i64 (p.ship j).long) at f3
  change w.cell? _ = some (.int .i64 (p.ship j).cls) at f4
  change w.cell? _ = some (.int .i64 (p.ship j).since) at f5
  change w.cell? _ = some (.int .i64 (p.ship j).queued) at f6
  generalize p.ship i = x at *
  generalize p.ship j = y at *
  obtain ⟨xs, xw, xl, xc, xi, xq⟩ := x
  obtain ⟨ys, yw, yl, yc, yi, yq⟩ := y
  dsimp only at *
  go_enter Try.func52, Try.ntmps52
  go_upto_region 1 with fail
  go_cut [6, 7] (fun v6 v7 wc => ∃ g1 g2 q os, v6 = .pointer (some ⟨g1, 0, none⟩) ∧ v7 = .pointer (some ⟨g2, 0, none⟩) ∧ wc = Sort.grow (w.drewN q) os ∧ (wc.cell? ⟨g1, 3, none⟩ = some (.int .i64 xc) ∧ wc.cell? ⟨g1, 5, none⟩ = some (.int .i64 xq)) ∧ wc.cell? ⟨g2, 3, none⟩ = some (.int .i64 yc) ∧ wc.cell? ⟨g2, 5, none⟩ = some (.int .i64 yq))
  case first =>
    go_region
    all_goals
      go_wp2_with fail
      go_meet
      exact ⟨_, _, 1, _, rfl, rfl, two_allocs w _ _, ⟨by simp, by simp⟩, by simp, by simp⟩
  case rest =>
    obtain ⟨g1, g2, q, os, rfl, rfl, hw, ⟨c1, c2⟩, c3, c4⟩ := hcut
    have hgw : Grew w wc := ⟨q, os, hw⟩
    clear hw
    go_wp2_with fail
    go_region_held3 (fun w' => Grew w w' ∧ w'.cell? ⟨g1, 3, none⟩ = some (.int .i64 xc) ∧ w'.cell? ⟨g1, 5, none⟩ = some (.int .i64 xq) ∧ w'.cell? ⟨g2, 3, none⟩ = some (.int .i64 yc) ∧ w'.cell? ⟨g2, 5, none⟩ = some (.int .i64 yq)) (simp [*, grew_drew, grew_alloc, World.cell?_alloc_some, World.cell?_setCell_far])
      (first
        | (go_at_call 54; with_reducible refine (compare_any _ _ _).mono ?_; rintro e w' ⟨rfl, rfl⟩)
        | (go_at_call 53; with_reducible refine (or_new _ _ _ _).mono ?_; rintro e w' ⟨rfl, rfl⟩))
    go_wp2_with fail
    go_ret
    exact ⟨rfl, grew_drew (grew_alloc _ hgw)⟩
end Go.Proofs.Ytifmdkcpbajdcab

/- Walks: comparing numbers; the order by class, then by the queue. -/
import Derived.Test.YtifmdkcpbajdcabGreatDoorPortA
import Derived.Test.YtifmdkcpbajdcabGreatDoorPlain
import Derived.Deep.RegionWith
import Derived.Deep.DeepCutAuto
import Derived.Deep.RegionHeld3
import Derived.Sort.Grow
import Derived.Test.YtifmdkcpbajdcabGreatDoorNats
import Derived.Test.YtifmdkcpbajdcabGreatDoorShelf
set_option linter.unusedVariables false
set_option linter.unusedSimpArgs false
set_option maxHeartbeats 20000000
namespace Go.Proofs.YtifmdkcpbajdcabGreatDoor
open Go.RowKit Go.Proofs Plain
open Go.Lib renaming hid -> hd_
theorem nan_any (x : Int) (w : World) : Calls Tryz.prog 133 #[.int .i64 x] w fun e w' => e = .returned (.bool false) /\ w' = w := by
  go_enter Tryz.func133, Tryz.ntmps133
  go_wp2_with fail
  go_ret
  exact ⟨rtB (by simp), rfl⟩
theorem compare_any (x y : Int) (w : World) : Calls Tryz.prog 109 #[.int .i64 x, .int .i64 y] w fun e w' => e = .returned (.int .i64 (cmpI x y)) /\ w' = w := by
  by_cases h : x < y
  · have HC := hd_ (show cmpI x y = -1 by unfold cmpI; rw [if_pos h])
    go_enter Tryz.func109, Tryz.ntmps109
    go_wp2_with (go_at_call 133; refine (nan_any _ _).mono ?_; rintro e w' ⟨rfl, rfl⟩)
    go_ret
    exact ⟨ret_int HC.out.symm, rfl⟩
  · by_cases h2 : y < x
    · have HC := hd_ (show cmpI x y = 1 by unfold cmpI; rw [if_neg h, if_pos h2])
      go_enter Tryz.func109, Tryz.ntmps109
      go_wp2_with (go_at_call 133; refine (nan_any _ _).mono ?_; rintro e w' ⟨rfl, rfl⟩)
      go_ret
      exact ⟨ret_int HC.out.symm, rfl⟩
    · have HC := hd_ (show cmpI x y = 0 by unfold cmpI; rw [if_neg h, if_neg h2])
      go_enter Tryz.func109, Tryz.ntmps109
      go_wp2_with (go_at_call 133; refine (nan_any _ _).mono ?_; rintro e w' ⟨rfl, rfl⟩)
      go_ret
      exact ⟨ret_int HC.out.symm, rfl⟩
theorem or_any (a b : Int) (g c : Nat) (w : World) (h0 : w.cell? ⟨g, 0, none⟩ = some (.int .i64 a)) (h1 : w.cell? ⟨g, 1, none⟩ = some (.int .i64 b)) :
    Calls Tryz.prog 108 #[.slice (some ⟨g, 0, none⟩) 2 c] w fun e w' => e = .returned (.int .i64 (orI a b)) /\ w' = w := by
  have HO := hd_ (show orI a b = if a = 0 then b else a from rfl)
  go_enter Tryz.func108, Tryz.ntmps108
  go_wp2_with fail
  go_loopw [8] (fun i wr => ∃ k : Nat, k <= 2 /\ i = .int .i64 k /\ wr = w /\ (0 < k -> a = 0) /\ (1 < k -> b = 0)) (fun i _ => 2 - (intOf i).toNat)
  case atStart => exact ⟨0, by omega, rfl, rfl, fun h => absurd h (by omega), fun h => absurd h (by omega)⟩
  case round =>
    obtain ⟨k, hk, rfl, rfl, ha, hb⟩ := hrel
    rcases (by omega : k = 0 \/ k = 1 \/ k = 2) with rfl | rfl | rfl
    · by_cases e : a = 0
      · clear ha hb
        have e' : (a == 0) = true := by simpa using e
        go_wp2_with fail
        go_roundw
        case rel => exact ⟨1, by omega, by go_num, by trivial, fun _ => e, fun h => absurd h (by omega)⟩
        case measure => simp [intOf] <;> omega
      · have e' : (a == 0) = false := by simpa using e
        have HR := hd_ (show orI a b = a by rw [HO.out, if_neg e])
        clear ha hb e
        go_wp2_with fail
        go_ret
        exact ⟨ret_int HR.out.symm, rfl⟩
    · have e := ha (by omega)
      by_cases f : b = 0
      · clear ha hb
        go_wp2_with fail
        go_roundw
        case rel => exact ⟨2, by omega, by go_num, by trivial, fun _ => e, fun _ => f⟩
        case measure => simp [intOf] <;> omega
      · have f' : (b == 0) = false := by simpa using f
        have HR := hd_ (show orI a b = b by rw [HO.out, if_pos e])
        clear ha hb f
        go_wp2_with fail
        go_ret
        exact ⟨ret_int HR.out.symm, rfl⟩
    · have HR := hd_ (show orI a b = 0 by rw [HO.out, if_pos (ha (by omega)), hb (by omega)])
      clear ha hb
      go_wp2_with fail
      go_ret
      exact ⟨ret_int HR.out.symm, rfl⟩
theorem two_allocs (w : World) (a b : Obj) : ((w.alloc a).alloc b).drew = Sort.grow (w.drewN 1) #[a, b] := by
  rw [Sort.alloc_eq_grow, Sort.alloc_eq_grow, Sort.grow_grow]; rfl
theorem or_new (a b : Int) (W : World) (T : TypeId) :
    Calls Tryz.prog 108 #[.slice (some ⟨W.heap.size, 0, none⟩) 2 2] (W.alloc (.cells #[.int .i64 a, .int .i64 b] T)).drew fun e w' => e = .returned (.int .i64 (orI a b)) /\ w' = (W.alloc (.cells #[.int .i64 a, .int .i64 b] T)).drew :=
  or_any a b W.heap.size 2 _ (by show (W.alloc _).cell? _ = _; rw [cell_of_row _ W.heap.size 0 _ _ _ (heap_alloc_new W _)]; rfl) (by show (W.alloc _).cell? _ = _; rw [cell_of_row _ W.heap.size 1 _ _ _ (heap_alloc_new W _)]; rfl)
def Grew (w w' : World) : Prop := ∃ q os, w' = Sort.grow (w.drewN q) os
theorem grew_drew {w a : World} (h : Grew w a) : Grew w a.drew := by
  obtain ⟨q, os, rfl⟩ := h; exact ⟨q + 1, os, rfl⟩
theorem grew_alloc {w a : World} (o : Obj) (h : Grew w a) : Grew w (a.alloc o) := by
  obtain ⟨q, os, rfl⟩ := h; exact ⟨q, os ++ #[o], by rw [Sort.alloc_eq_grow, Sort.grow_grow]⟩
set_option maxRecDepth 100000 in
theorem byRank_any (p : Port) (A : Option Addr) (c g i j : Nat) (w : World) (hP : PortAt w g p A c) (hin : InP w p A) (hi : i < p.ships.length) (hj : j < p.ships.length) :
    Calls Tryz.prog 107 #[.int .i64 i, .int .i64 j, .pointer (some ⟨g, 0, none⟩)] w fun e w' => e = .returned (.int .i64 (cfI (p.ship i) (p.ship j))) /\ ∃ q os, w' = Sort.grow (w.drewN q) os := by
  have q1 := hP.ships
  have hglt := hP.lt
  obtain ⟨b, off, hA, hbl, hcells⟩ := ships_at hin (by omega)
  subst hA
  obtain ⟨d1, d2, d3, d4, d5, d6⟩ := hcells i hi
  obtain ⟨f1, f2, f3, f4, f5, f6⟩ := hcells j hj
  clear hcells
  change w.cell? _ = some (.int .i64 (p.ship i).state) at d1
  change w.cell? _ = some (.int .i64 (p.ship i).wide) at d2
  change w.cell? _ = some (.int .i64 (p.ship i).long) at d3
  change w.cell? _ = some (.int .i64 (p.ship i).cls) at d4
  change w.cell? _ = some (.int .i64 (p.ship i).since) at d5
  change w.cell? _ = some (.int .i64 (p.ship i).queued) at d6
  change w.cell? _ = some (.int .i64 (p.ship j).state) at f1
  change w.cell? _ = some (.int .i64 (p.ship j).wide) at f2
  change w.cell? _ = some (.int .i64 (p.ship j).long) at f3
  change w.cell? _ = some (.int .i64 (p.ship j).cls) at f4
  change w.cell? _ = some (.int .i64 (p.ship j).since) at f5
  change w.cell? _ = some (.int .i64 (p.ship j).queued) at f6
  generalize p.ship i = x at *
  generalize p.ship j = y at *
  obtain ⟨xs, xw, xl, xc, xi, xq⟩ := x
  obtain ⟨ys, yw, yl, yc, yi, yq⟩ := y
  dsimp only at *
  go_enter Tryz.func107, Tryz.ntmps107
  go_upto_region 1 with fail
  go_cut [6, 7] (fun v6 v7 wc => ∃ g1 g2 q os, v6 = .pointer (some ⟨g1, 0, none⟩) /\ v7 = .pointer (some ⟨g2, 0, none⟩) /\ wc = Sort.grow (w.drewN q) os /\ (wc.cell? ⟨g1, 3, none⟩ = some (.int .i64 xc) /\ wc.cell? ⟨g1, 5, none⟩ = some (.int .i64 xq)) /\ wc.cell? ⟨g2, 3, none⟩ = some (.int .i64 yc) /\ wc.cell? ⟨g2, 5, none⟩ = some (.int .i64 yq))
  case first =>
    go_region
    all_goals
      go_wp2_with fail
      go_meet
      exact ⟨_, _, 1, _, rfl, rfl, two_allocs w _ _, ⟨by simp, by simp⟩, by simp, by simp⟩
  case rest =>
    obtain ⟨g1, g2, q, os, rfl, rfl, hw, ⟨c1, c2⟩, c3, c4⟩ := hcut
    have hgw : Grew w wc := ⟨q, os, hw⟩
    clear hw
    go_wp2_with fail
    go_region_held3 (fun w' => Grew w w' /\ w'.cell? ⟨g1, 3, none⟩ = some (.int .i64 xc) /\ w'.cell? ⟨g1, 5, none⟩ = some (.int .i64 xq) /\ w'.cell? ⟨g2, 3, none⟩ = some (.int .i64 yc) /\ w'.cell? ⟨g2, 5, none⟩ = some (.int .i64 yq)) (simp [*, grew_drew, grew_alloc, World.cell?_alloc_some, World.cell?_setCell_far])
      (first
        | (go_at_call 109; with_reducible refine (compare_any _ _ _).mono ?_; rintro e w' ⟨rfl, rfl⟩)
        | (go_at_call 108; with_reducible refine (or_new _ _ _ _).mono ?_; rintro e w' ⟨rfl, rfl⟩))
    go_wp2_with fail
    go_ret
    exact ⟨rfl, grew_drew (grew_alloc _ hgw)⟩
end Go.Proofs.YtifmdkcpbajdcabGreatDoor
namespace Go.Proofs.YtifmdkcpbajdcabGreatDoor
open Go.RowKit Go.Proofs Plain Go.Sort Go.Shelf Go.Lib
theorem ints_own {w : World} {base c : Nat} {A : Option Addr} {l : List Int} (h : OwnI w base (.slice A l.length c) l) (hl : 0 < l.length) : ∃ g, A = some ⟨g, 0, none⟩ /\ base <= g /\ g < w.heap.size := by
  rcases h.2 with ⟨hv, hn⟩ | ⟨g, cap, cur, hv, h1, h2, _⟩
  · omega
  · injection hv with e1 _ e2
    exact ⟨g, e1, h1, (Array.getElem?_eq_some_iff.1 h2).1⟩
theorem sort_below {α : Type} [Inhabited α] (enc : α -> Value) {B : Nat} {a w : World} {g n : Nat} {d : Array α} {os : Array Obj} (h : Below B a w) (hg : B <= g) (hw : B <= w.heap.size) : Below B a (sortWorld enc w g 0 n d os) := by
  refine h.trans ⟨rfl, rfl, rfl, by simp [sortWorld, grow, putRow, mapBlock, Sort.ahead], fun k hk => ?_⟩
  have hne : g ≠ k := by omega
  simp only [sortWorld, grow, putRow, mapBlock, Sort.ahead]
  rw [Array.getElem?_append_left (by simp; omega)]
  simp [Array.getElem?_modify, hne]
def encF (n : Nat) (i : Fin n) : Value := .int .i64 (i.val : Int)
theorem swoF (p : Port) (h : PGood p) : SWO (ltOf (cfF p)) := by
  have key1 : ∀ x y : Fin p.ships.length, ltOf (cfF p) x y = decide (key (p.ship x.val) < key (p.ship y.val)) := fun x y => by
    unfold ltOf cfF
    rw [Bool.eq_iff_iff, decide_eq_true_eq, decide_eq_true_eq]
    exact cf_lt h x.2 y.2
  exact ⟨fun x => by rw [key1]; simp, fun x y z h1 h2 => by rw [key1] at *; simp at *; omega, fun x y z h1 h2 => by rw [key1] at *; simp at *; omega⟩
theorem totF (p : Port) (h : PGood p) (x y : Fin p.ships.length) (h1 : ltOf (cfF p) x y = false) (h2 : ltOf (cfF p) y x = false) : x = y := by
  unfold ltOf cfF at h1 h2
  rw [decide_eq_false_iff_not] at h1 h2
  rw [cf_lt h x.2 y.2] at h1
  rw [cf_lt h y.2 x.2] at h2
  exact Fin.ext (key_inj h x.2 y.2 (by omega))
theorem sort_ranks (p : Port) (hg : PGood p) (A : Option Addr) (c : Nat) (w0 w : World) (gp : Nat) (hin : InP w0 p A) (hP : PortAt w gp p A c) (hpos : 0 < (waitsTo p p.ships.length).length)
    (g cap : Nat) (hb : Below w0.heap.size w0 w) (hgp : gp < g) (h0 : w0.heap.size <= g) (hlt : g < w.heap.size) (hown : OwnI w (gp + 1) (.slice (some ⟨g, 0, none⟩) (natsI (waitsTo p p.ships.length)).length cap) (natsI (waitsTo p p.ships.length))) :
    Calls Tryz.prog 106 #[.slice (some ⟨g, 0, none⟩) (natsI (waitsTo p p.ships.length)).length cap, .func (.func 107) #[] #[.pointer (some ⟨gp, 0, none⟩)]] w fun e w' =>
      e = .returned (.tuple #[]) /\ Sl w' 1 (some ⟨g, 0, none⟩) (natsI (waitsTo p p.ships.length)).length ((natsI (rankL p)).map (Value.int .i64)) /\ Below w0.heap.size w0 w' := by
  have hnz : 0 < p.ships.length := Nat.lt_of_lt_of_le hpos (waits_len p _)
  haveI : Inhabited (Fin p.ships.length) := ⟨⟨0, hnz⟩⟩
  have hlen : (finsTo p).length = (waitsTo p p.ships.length).length := by rw [<- fins_val, List.length_map]
  have hsz : (finsTo p).toArray.size = (natsI (waitsTo p p.ships.length)).length := by rw [List.size_toArray, hlen, nIl]
  have hsl := Sl.of_own hown
  have hH : Holds (encF p.ships.length) w g 0 (finsTo p).toArray := fun j hj => by
    rw [hsz] at hj
    obtain ⟨b, off, e, hbl, hc⟩ := ints_at hsl (by rw [nIl]; exact hpos)
    injection e with e
    injection e with e1 e2
    subst e1; subst e2
    refine ⟨?_, hown.frozenAt _⟩
    rw [hc j hj]
    congr 1
    have hj2 : j < (waitsTo p p.ships.length).length := by rwa [nIl] at hj
    rw [natsI_get _ _ hj2]
    unfold encF
    congr 2
    have hj3 : j < (finsTo p).length := by rw [hlen]; exact hj2
    rw [getElem!_pos _ j (by rw [List.size_toArray]; exact hj3)]
    simp only [List.getElem_toArray]
    rw [List.getD_eq_getElem?_getD, <- fins_val, List.getElem?_map, List.getElem?_eq_getElem hj3]; rfl
  have eg : ∀ args W, (callFunc 107 args).run Tryz.prog W = .ok (.enter 107 args) W := enters_of Tryz.func107 (by kernel_rfl) rfl
  have hcmp : CmpLays1 Tryz.prog 107 #[.pointer (some ⟨gp, 0, none⟩)] (encF p.ships.length) (cfF p) g 0 (finsTo p).toArray.size w := fun m os dk hdk x y => by
    have hbw := sort_below (encF p.ships.length) (g := g) (n := m) (d := dk) (os := os) hb h0 hb.size
    have hP2 : PortAt (sortWorld (encF p.ships.length) w g 0 m dk os) gp p A c :=
      hP.below (n := gp + 1) (sort_below (encF p.ships.length) (g := g) (n := m) (d := dk) (os := os) (Below.refl (gp + 1) w) (by omega) (by omega)) (by omega)
    exact byRank_any p A c gp x.val y.val _ hP2 (Sl.below hin hbw) x.2 y.2
  have hS := Tryz.slices_SortFunc_total (encF p.ships.length) (fun _ => rfl) (cfF p) (swoF p hg) 107 #[.pointer (some ⟨gp, 0, none⟩)] g 0 cap (finsTo p).toArray w eg hcmp hH hlt (by rw [List.size_toArray, hlen]; have := waits_len p p.ships.length; have := hg.len; omega) (totF p hg)
  rw [hsz] at hS
  refine hS.mono fun e w' hw => ?_
  obtain ⟨rfl, n, os, rfl⟩ := hw
  refine ⟨rfl, ?_, sort_below _ hb h0 hb.size⟩
  have hms : ((finsTo p).toArray.toList.mergeSort fun x y => !(ltOf (cfF p)) y x).map Fin.val = rankL p := fins_sorted hg _ (fun i j => rfl)
  generalize hd : ((finsTo p).toArray.toList.mergeSort fun x y => !(ltOf (cfF p)) y x) = D at *
  have hDl : D.length = (finsTo p).length := by rw [<- hd, List.length_mergeSort]
  have hrl : (rankL p).length = (waitsTo p p.ships.length).length := by rw [<- hms, List.length_map, hDl, hlen]
  have hh := holds_sortWorld (encF p.ships.length) w g 0 n (finsTo p).toArray D.toArray os hlt hH (by rw [List.size_toArray, List.size_toArray, hDl])
  refine ⟨by rw [List.length_map, nIl, nIl, hrl]; simp, fun hn => ⟨g, 0, rfl, fun j hj => ?_⟩⟩
  have hj2 : j < D.length := by rw [hDl, hlen]; rw [nIl] at hj; omega
  rw [(hh j (by rw [List.size_toArray]; exact hj2)).1, getElem!_pos _ j (by rw [List.size_toArray]; exact hj2), List.getElem?_map]
  simp only [natsI, List.getElem?_map, List.getElem_toArray]
  rw [<- hms, List.getElem?_map, List.getElem?_eq_getElem hj2]
  rfl
end Go.Proofs.YtifmdkcpbajdcabGreatDoor
namespace Go.Proofs.YtifmdkcpbajdcabGreatDoor
open Go.RowKit Go.Proofs Plain
open Go.Lib renaming hid -> hd_
theorem natsI_snoc (r : List Nat) (k : Nat) : natsI (r ++ [k]) = natsI r ++ [(k : Int)] := by simp [natsI]
set_option maxRecDepth 100000 in
theorem ranked_any (p : Port) (A : Option Addr) (c : Nat) (w : World) (hg : PGood p) (hin : InP w p A) : RanksAt w p A c := by
  have hlen := hg.len
  have HG := hd_ hg
  clear hg
  unfold RanksAt
  simp only [portA]
  go_enter Tryz.func74, Tryz.ntmps74
  go_wp2_with fail
  have hP0 : PortAt (w.alloc (.cells (portA p A c) 36)) w.heap.size p A c := PortAt.new w p A c
  have hB0 : Below w.heap.size w (w.alloc (.cells (portA p A c) 36)) := (Below.refl _ _).alloc (Nat.le_refl _) _
  simp only [portA] at hP0 hB0
  go_loopw [9, 3] (fun i v wr => ∃ k : Nat, k <= p.ships.length /\ i = .int .i64 k /\ OwnI wr (w.heap.size + 1) v (natsI (waitsTo p k)) /\ PortAt wr w.heap.size p A c /\ Below w.heap.size w wr) (fun i _ _ => p.ships.length - (intOf i).toNat)
  case atStart => exact ⟨0, Nat.zero_le _, rfl, OwnI.nil _ _, hP0, hB0⟩
  case round =>
    clear hP0 hB0
    obtain ⟨k, hk, rfl, hown, hP, hB⟩ := hrel
    have q1 := hP.ships
    have hglt := hP.lt
    by_cases hlt : k < p.ships.length
    · obtain ⟨bs, offs, hA, hbl, hcells⟩ := ships_at (Sl.below hin hB) (by omega)
      subst hA
      obtain ⟨d1, d2, d3, d4, d5, d6⟩ := hcells k hlt
      clear hcells
      have HY := hd_ (@waits_yes p k)
      have HN := hd_ (@waits_no p k)
      have hwl := waits_len p k
      have hnl := nIl (waitsTo p k)
      change wr.cell? _ = some (.int .i64 (p.ship k).state) at d1
      change wr.cell? _ = some (.int .i64 (p.ship k).wide) at d2
      change wr.cell? _ = some (.int .i64 (p.ship k).long) at d3
      change wr.cell? _ = some (.int .i64 (p.ship k).cls) at d4
      change wr.cell? _ = some (.int .i64 (p.ship k).since) at d5
      change wr.cell? _ = some (.int .i64 (p.ship k).queued) at d6
      generalize p.ship k = x at *
      obtain ⟨sst, wd, lg, cl, si, qu⟩ := x
      dsimp only at *
      have ho := (hown.alloc (.cells (shipV ⟨sst, wd, lg, cl, si, qu⟩) 61))
      by_cases e1 : sst = 1
      · subst e1
        have HM := hd_ (HY.out rfl)
        clear HY HN
        have ho2 := ho.alloc (.cells #[.int .i64 k] 3)
        have hh : ((wr.alloc (.cells (shipV ⟨1, wd, lg, cl, si, qu⟩) 61)).alloc (.cells #[.int .i64 k] 3)).heap[wr.heap.size + 1]? = some (.cells #[.int .i64 k] 3 (0, 0)) := by
          have := heap_alloc_new (wr.alloc (.cells (shipV ⟨1, wd, lg, cl, si, qu⟩) 61)) (.cells #[.int .i64 k] 3)
          simpa using this
        simp only [shipV] at ho2 hh
        go_wp2_with (at_builtin; refine wpList_append_int rfl _ _ rfl (w.heap.size + 1) _ _ rfl ho2 (wr.heap.size + 1) 1 k rfl hh (by rw [hnl]; omega) (by simp; omega) ?_; intro v' w' ho' hg')
        go_roundw
        case rel =>
          refine ⟨k + 1, by omega, by go_num, by rw [HM.out, natsI_snoc]; exact ho', ?_, grown_below ((hB.alloc hB.size _).alloc (by simp; have := hB.size; omega) _) hg' ho2 (by omega) (by simp; have := hB.size; omega)⟩
          exact (hg'.block _ (by simp; omega) (fun e => by have := oBk ho2 _ e.symm; omega)).trans ((hP.alloc _).alloc _)
        case measure => simp [intOf] <;> omega
      · have HM := hd_ (HN.out e1)
        have e1' : (sst == 1) = false := by simpa using e1
        clear HY HN
        go_wp2_with fail
        go_roundw
        case rel => exact ⟨k + 1, by omega, by go_num, by rw [HM.out]; exact ho, hP.alloc _, hB.alloc hB.size _⟩
        case measure => simp [intOf] <;> omega
    · obtain rfl : k = p.ships.length := by omega
      obtain ⟨A3, c3, hv⟩ := own_form hown
      subst hv
      by_cases hpos : 0 < (waitsTo p p.ships.length).length
      · obtain ⟨g, hA3, hg1, hg2⟩ := ints_own hown (by rw [nIl]; exact hpos)
        subst hA3
        have hrl : (natsI (waitsTo p p.ships.length)).length = (natsI (rankL p)).length := by
          rw [nIl, nIl]
          unfold rankL waitsTo
          rw [List.length_mergeSort]
        have HRL := hd_ hrl
        clear hrl
        go_wp2_with fail
        refine (sort_ranks p HG.out A c w wr w.heap.size hin hP hpos g c3 hB (by omega) (by omega) hg2 hown).mono ?_
        rintro e w2 ⟨rfl, hs2, hb2⟩
        go_wp2_with fail
        go_ret
        refine ⟨some ⟨g, 0, none⟩, c3, ret_sl HRL.out, by rw [<- HRL.out]; exact hs2, hb2, Fr.some (by omega)⟩
      · have hz : waitsTo p p.ships.length = [] := List.eq_nil_of_length_eq_zero (by omega)
        have hrz : rankL p = [] := List.eq_nil_of_length_eq_zero (by
          unfold rankL
          rw [List.length_mergeSort]
          unfold waitsTo at hz
          rw [hz]; rfl)
        have HRZ := hd_ hrz
        have hnl : (natsI (waitsTo p p.ships.length)).length = 0 := by rw [hz]; rfl
        clear hrz
        have HFR := hd_ (show Fr (w.heap.size + 1) A3 from fr_own hown)
        rw [hnl] at hown ⊢
        go_wp2_with fail
        refine (Tryz.slices_SortFunc_none (α := Nat) A3 c3 _ wr).mono ?_
        rintro e w2 ⟨rfl, rfl⟩
        go_wp2_with fail
        go_ret
        refine ⟨A3, c3, by rw [HRZ.out]; rfl, by rw [HRZ.out]; exact Sl.zero _ _ _, hB, HFR.out.mono (by omega)⟩
end Go.Proofs.YtifmdkcpbajdcabGreatDoor

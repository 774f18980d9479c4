/- Walks: a port one time on. -/
import Derived.Test.YtifmdkcpbajdcabTellS
import Derived.Test.YtifmdkcpbajdcabStepPlain
import Derived.BigQuiet
namespace Go.Proofs.Ytifmdkcpbajdcab
open Go.RowKit Go.Proofs Plain

def RetP2 (r : Port × Int) (w : World) (e : Ending) (w' : World) : Prop :=
  ∃ A c, e = .returned (.tuple #[.agg (portA r.1 A c), .int .i64 r.2]) ∧ InP w' r.1 A ∧ Below w.heap.size w w'

theorem results_port2 {fn : Func} {t u : Tmp} (h : fn.results = #[.cell t 27, .tmp u]) (tmps : Array Value) (w : World) (g : Nat) {p : Port} {A : Option Addr} {c : Nat}
    (hp : tmps.getD t undef = .pointer (some ⟨g, 0, none⟩)) (hf : PortAt w g p A c) : (results fn tmps).run Try.prog w = .ok (.tuple #[.agg (portA p A c), tmps.getD u undef]) w := by
  rw [results_cell_tmp h, hp]
  simp [asAddr, load_port_run hf]

/-- What of a port lies in its variable besides its ships. -/
theorem portA_ships (p : Port) (l : List Ship) (A : Option Addr) (c : Nat) (h : l.length = p.ships.length) : portA { p with ships := l } A c = portA p A c := by
  simp [portA, Port.keep, h]

set_option maxRecDepth 100000 in
set_option maxHeartbeats 8000000 in
theorem later_end (p : Port) (A : Option Addr) (c : Nat) (w : World) (hg : PGood p) (hin : InP w p A) (hn : 300 ≤ p.now + 1) :
    Calls Try.prog 12 #[.agg (portA p A c)] w (RetP2 (p, 2) w) := by
  have HW := Lib.hid (fair_wf hg.toFair)
  have HG := Lib.hid ((goodP_iff hg.four).2 hg)
  have hn2 := hg.now
  clear hg
  simp only [portA]
  go_enter Try.func12, Try.ntmps12
  have hP0 : PortAt ((w.alloc (.cells (portA p A c) 27)).alloc (.cells (portA Port.zero none 0) 27)) w.heap.size p A c := (PortAt.new w p A c).alloc _
  have hZ0 : PortAt ((w.alloc (.cells (portA p A c) 27)).alloc (.cells (portA Port.zero none 0) 27)) (w.heap.size + 1) Port.zero none 0 := by
    have := PortAt.new (w.alloc (.cells (portA p A c) 27)) Port.zero none 0
    simpa using this
  have hB0 : Below w.heap.size w ((w.alloc (.cells (portA p A c) 27)).alloc (.cells (portA Port.zero none 0) 27)) := ((Below.refl _ _).alloc (Nat.le_refl _) _).alloc (by simp) _
  have hs0 : ((w.alloc (.cells (portA p A c) 27)).alloc (.cells (portA Port.zero none 0) 27)).heap.size = w.heap.size + 2 := by simp
  simp only [portA, Port.zero, Port.keep, Kept.zero, List.getD_cons_zero, List.getD_cons_succ, List.length_nil] at hP0 hZ0 hB0 hs0
  go_wp2_with (refine wpList_load_port rfl rfl (by first | rfl | simp [Act.eval, Act.put]) hP0 ?_)
  refine (good_port p A c _ HW.out (Sl.below hin hB0)).mono ?_
  rintro e w1 ⟨rfl, hb1⟩
  rw [HG.out]
  have hP1 := PortAt.below (p := p) (A := A) (c := c) hP0 hb1 (by rw [hs0]; omega)
  have hZ1 := PortAt.below (p := Port.zero) (A := none) (c := 0) hZ0 hb1 (by rw [hs0]; omega)
  have hB1 := below_go hB0 hb1
  have q0 := hP1.now
  have d0 : decide (300 ≤ p.now + 1) = true := by simpa using hn
  go_wp2_with (first
    | (refine wpList_load_port rfl rfl (by first | rfl | simp [Act.eval, Act.put]) hP1 ?_)
    | (refine wpList_store_port rfl rfl (by first | rfl | simp [Act.eval, Act.put]) (by first | rfl | simp [Act.eval, Act.put]) hZ1 ?_; intro w4 hZ4 hr4))
  refine bodyPost_ret (results_port2 rfl _ _ (w.heap.size + 1) rfl hZ4) rfl ?_
  have hB4 := hB1.trans (hr4.below (n := w.heap.size) (by omega))
  exact ⟨A, c, rfl, Sl.below hin hB4, hB4⟩

set_option maxRecDepth 100000 in
set_option maxHeartbeats 16000000 in
theorem later_walk (p : Port) (A : Option Addr) (c : Nat) (w : World) (hg : PGood p) (hin : InP w p A) (hn : p.now + 1 < 300) :
    Calls Try.prog 12 #[.agg (portA p A c)] w (RetP2 (laterL p, 0) w) := by
  have HW := Lib.hid (fair_wf hg.toFair)
  have HG := Lib.hid ((goodP_iff hg.four).2 hg)
  have HGD := Lib.hid hg
  have hn2 := hg.now
  have hlen := hg.len
  have HLS := Lib.hid (later_ships p)
  clear hg
  simp only [portA]
  go_enter Try.func12, Try.ntmps12
  have hP0 : PortAt ((w.alloc (.cells (portA p A c) 27)).alloc (.cells (portA Port.zero none 0) 27)) w.heap.size p A c := (PortAt.new w p A c).alloc _
  have hZ0 : PortAt ((w.alloc (.cells (portA p A c) 27)).alloc (.cells (portA Port.zero none 0) 27)) (w.heap.size + 1) Port.zero none 0 := by
    have := PortAt.new (w.alloc (.cells (portA p A c) 27)) Port.zero none 0
    simpa using this
  have hB0 : Below w.heap.size w ((w.alloc (.cells (portA p A c) 27)).alloc (.cells (portA Port.zero none 0) 27)) := ((Below.refl _ _).alloc (Nat.le_refl _) _).alloc (by simp) _
  have hs0 : ((w.alloc (.cells (portA p A c) 27)).alloc (.cells (portA Port.zero none 0) 27)).heap.size = w.heap.size + 2 := by simp
  simp only [portA, Port.zero, Port.keep, Kept.zero, List.getD_cons_zero, List.getD_cons_succ, List.length_nil] at hP0 hZ0 hB0 hs0
  go_wp2_with (refine wpList_load_port rfl rfl (by first | rfl | simp [Act.eval, Act.put]) hP0 ?_)
  refine (good_port p A c _ HW.out (Sl.below hin hB0)).mono ?_
  rintro e w1 ⟨rfl, hb1⟩
  rw [HG.out]
  have hP1 := PortAt.below (p := p) (A := A) (c := c) hP0 hb1 (by rw [hs0]; omega)
  have hZ1 := PortAt.below (p := Port.zero) (A := none) (c := 0) hZ0 hb1 (by rw [hs0]; omega)
  have hB1 := below_go hB0 hb1
  have hs1 := hb1.size
  rw [hs0] at hs1
  have q0 := hP1.now
  have d0 : decide (300 ≤ p.now + 1) = false := by simp; omega
  clear hP0 hZ0 hB0 hb1 hs0
  go_wp2_with (refine wpList_load_port rfl rfl (by first | rfl | simp [Act.eval, Act.put]) hP1 ?_)
  refine (ownP_any p A c _ (Sl.below hin hB1) (by omega)).mono ?_
  rintro e w2 ⟨A2, c2, rfl, ho2, hb2⟩
  have hs2 := hb2.size
  have hP2 := hP1.below hb2 (by omega)
  have hZ2 := hZ1.below hb2 (by omega)
  have hB2 := below_go hB1 hb2
  clear hP1 hZ1 hB1 hb2 q0
  have hQ : ∀ w3, PortAt w3 w.heap.size p A2 c2 → PortAt (w3.setCell ⟨w.heap.size, 0, none⟩ (.int .i64 (p.now + 1))) w.heap.size { p with now := p.now + 1 } A2 c2 := fun w3 h => h.put 0 _ _ _ _ (by simp [portA, Port.keep])
  go_wp2_with (refine wpList_store_port (p := p) (A := A) (c := c) (q := p) (B := A2) (d := c2) rfl rfl (by first | rfl | simp [Act.eval, Act.put]) (by first | rfl | simp [Act.eval, Act.put]) hP2 ?_; intro w3 hP3 hr3; have q0 := hP3.now; have f0 := hP3.frozen 0; have hP4 := hQ w3 hP3; have q1 := hP4.ships)
  have hZ4 := (hZ2.one hr3 (by omega)).beside ⟨w.heap.size, 0, none⟩ (.int .i64 (p.now + 1)) (by simp)
  have hB4 := (hB2.trans (hr3.below (n := w.heap.size) (Nat.le_refl _))).setCell (p := ⟨w.heap.size, 0, none⟩) (Nat.le_refl _) (.int .i64 (p.now + 1))
  have ho4 : OwnK (w3.setCell ⟨w.heap.size, 0, none⟩ (.int .i64 (p.now + 1))) (w.heap.size + 2) (.slice A2 p.ships.length c2) p.ships :=
    own_weak (own_one (own_one ho2 hr3 (by omega)) (OneRow.of_cell w3 ⟨w.heap.size, 0, none⟩ (.int .i64 (p.now + 1))) (by simp; omega)) (by omega)
  have hz0 := step_zero (lateF p.now) p.ships
  clear hP2 hZ2 hB2 ho2 hP3 hr3 q0 f0 q1 hQ
  go_loopw [24] (fun i wr => ∃ k : Nat, k ≤ p.ships.length ∧ i = .int .i64 k ∧ OwnK wr (w.heap.size + 2) (.slice A2 p.ships.length c2) (stepTo (lateF p.now) p.ships k) ∧ PortAt wr w.heap.size { p with now := p.now + 1 } A2 c2 ∧ PortAt wr (w.heap.size + 1) Port.zero none 0 ∧ Below w.heap.size w wr) (fun i _ => p.ships.length - (intOf i).toNat)
  case atStart => exact ⟨0, Nat.zero_le _, rfl, by rw [hz0]; exact ho4, hP4, hZ4, hB4⟩
  case round =>
    clear hP4 hZ4 hB4 ho4 hz0
    obtain ⟨k, hk, rfl, ho, hP, hZ, hB⟩ := hrel
    have q0 := hP.now
    have q1 := hP.ships
    dsimp only at q0 q1
    have hll := step_len (lateF p.now) p.ships k
    by_cases hlt : k < p.ships.length
    · have HNX := Lib.hid (step_next (lateF p.now) p.ships k hlt)
      have HSM := Lib.hid (fun (e : lateF p.now k (p.ship k) = p.ship k) => step_same (lateF p.now) p.ships k (fun _ => e))
      have hgk := step_get (lateF p.now) p.ships k k hlt
      rw [if_neg (Nat.lt_irrefl k)] at hgk
      have hship := (HGD.out.ship k hlt).1
      have hlies := hship.lies
      have hlg := hship.long
      clear hship
      have HF := Lib.hid (show lateF p.now k (p.ship k) = if (p.ship k).state = 3 ∧ (p.ship k).since + (p.ship k).long ≤ p.now + 1 then { p.ship k with state := 4, since := 0 } else p.ship k from rfl)
      change (stepTo (lateF p.now) p.ships k).set k (lateF p.now k (p.ship k)) = _ at HNX
      change (stepTo (lateF p.now) p.ships k).getD k Ship.zero = p.ship k at hgk
      generalize stepTo (lateF p.now) p.ships k = L at *
      have ho' : OwnK wr (w.heap.size + 2) (.slice A2 L.length c2) L := by rw [hll]; exact ho
      have hP' : PortAt wr w.heap.size { p with now := p.now + 1, ships := L } A2 c2 := by
        unfold PortAt; rw [portA_ships { p with now := p.now + 1 } L A2 c2 hll]; exact hP
      have hog' : (Value.slice A2 L.length c2).ownBlock ≠ some w.heap.size := fun e => by have := own_block ho' _ e; omega
      obtain ⟨b, hA2, _, _⟩ := ownK_at ho' (by rw [hll]; omega)
      obtain ⟨_, F⟩ := found (p := { p with now := p.now + 1, ships := L }) hP' ho' hog' (by show k < L.length; rw [hll]; exact hlt) hA2
      subst hA2
      have hpk : ({ p with now := p.now + 1, ships := L } : Port).ship k = p.ship k := hgk
      have e0 := F.cells 0 (by omega)
      have e2 := F.cells 2 (by omega)
      have e4 := F.cells 4 (by omega)
      rw [hpk] at e0 e2 e4
      rw [Nat.add_zero] at e0
      have i0 := F.ice (k * 6)
      have i4 := F.ice (k * 6 + 4)
      have hFb := F.base
      have hne := F.ne
      clear F hpk hog' hP'
      generalize p.ship k = x at *
      obtain ⟨st, wd, lg, cl, si, qu⟩ := x
      simp only [shipV] at e0 e2 e4
      dsimp only at hlies hlg HF
      change wr.cell? _ = some (.int .i64 st) at e0
      change wr.cell? _ = some (.int .i64 lg) at e2
      change wr.cell? _ = some (.int .i64 si) at e4
      by_cases h3 : st = 3
      · obtain ⟨l1, l2, l3, l4⟩ := hlies h3
        have d3 : (st == 3) = true := by simpa using h3
        by_cases h4 : si + lg ≤ p.now + 1
        · have d4 : decide (si + lg ≤ p.now + 1) = true := by simpa using h4
          have HE := Lib.hid (show L.set k ⟨4, wd, lg, cl, 0, qu⟩ = stepTo (lateF p.now) p.ships (k + 1) by rw [← HNX, HF.out, if_pos ⟨h3, h4⟩])
          clear HNX HSM HF hlies
          go_wp2_with fail
          go_quiet (fail)
          have hog2 := own_gone (w := wr.drewN nq) (x := 4) (y := 0) ho' (show k < L.length by rw [hll]; exact hlt)
          rw [hgk] at hog2
          dsimp only at hog2
          rw [HE.out] at hog2
          have hll2 := step_len (lateF p.now) p.ships (k + 1)
          rw [hll2] at hog2
          have HO := Lib.hid hog2
          have HP := Lib.hid (((hP.drewN nq).beside ⟨b, k * 6, none⟩ (.int .i64 4) (by simpa using hne)).beside ⟨b, k * 6 + 4, none⟩ (.int .i64 0) (by simpa using hne))
          have HZ := Lib.hid (((hZ.drewN nq).beside ⟨b, k * 6, none⟩ (.int .i64 4) (by simp; omega)).beside ⟨b, k * 6 + 4, none⟩ (.int .i64 0) (by simp; omega))
          have HB := Lib.hid (((below_drewN hB nq).setCell (p := ⟨b, k * 6, none⟩) (by simp; omega) (.int .i64 4)).setCell (p := ⟨b, k * 6 + 4, none⟩) (by simp; omega) (.int .i64 0))
          clear hog2
          go_wp2_with fail
          go_roundw
          case rel => exact ⟨k + 1, by omega, by go_num, HO.out, HP.out, HZ.out, HB.out⟩
          case measure => simp [intOf] <;> omega
        · have d4 : decide (si + lg ≤ p.now + 1) = false := by simpa using h4
          have HE := Lib.hid (show stepTo (lateF p.now) p.ships (k + 1) = L from HSM.out (by rw [HF.out, if_neg (fun h => h4 h.2)]))
          clear HNX HSM HF hlies
          go_wp2_with fail
          go_quiet (fail)
          go_wp2_with fail
          go_roundw
          case rel => exact ⟨k + 1, by omega, by go_num, by rw [HE.out]; exact ho, hP, hZ, below_drewN hB nq⟩
          case measure => simp [intOf] <;> omega
      · have d3 : (st == 3) = false := by simpa using h3
        have HE := Lib.hid (show stepTo (lateF p.now) p.ships (k + 1) = L from HSM.out (by rw [HF.out, if_neg (fun h => h3 h.1)]))
        clear HNX HSM HF hlies
        go_wp2_with fail
        go_quiet (fail)
        go_wp2_with fail
        go_roundw
        case rel => exact ⟨k + 1, by omega, by go_num, by rw [HE.out]; exact ho, hP, hZ, below_drewN hB nq⟩
        case measure => simp [intOf] <;> omega
    · obtain rfl : k = p.ships.length := by omega
      go_wp2_with (first
        | (refine wpList_load_port (p := { p with now := p.now + 1 }) (A := A2) (c := c2) rfl rfl (by first | rfl | simp [Act.eval, Act.put]) hP ?_)
        | (refine wpList_store_port rfl rfl (by first | rfl | simp [Act.eval, Act.put]) (by first | rfl | simp [Act.eval, Act.put]) hZ ?_; intro w4 hZ4 hr4))
      refine bodyPost_ret (results_port2 rfl _ _ (w.heap.size + 1) rfl hZ4) rfl ?_
      have ho5 := own_one ho hr4 (by omega)
      rw [← HLS.out] at ho5 hll
      refine ⟨A2, c2, ?_, ?_, hB.trans (hr4.below (n := w.heap.size) (by omega))⟩
      · have e : portA (laterL p) A2 c2 = portA { p with now := p.now + 1 } A2 c2 := portA_ships { p with now := p.now + 1 } (laterL p).ships A2 c2 hll
        dsimp only
        rw [e]; rfl
      · unfold InP
        have := Sl.of_own (w := w4) (base := w.heap.size + 2) (e := 38) (size := 6) (A := A2) (n := (laterL p).ships.length) (c := c2) (by rw [hll]; rw [hll] at ho5; exact ho5)
        exact this
end Go.Proofs.Ytifmdkcpbajdcab

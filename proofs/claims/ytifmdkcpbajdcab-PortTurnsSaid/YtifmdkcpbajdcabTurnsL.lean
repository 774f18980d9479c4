/- Walks: what port's turns answer is what the document says. -/
import Derived.Test.YtifmdkcpbajdcabRefTz
import Derived.Test.YtifmdkcpbajdcabRefP2
import Derived.Test.YtifmdkcpbajdcabPlans
import Derived.Test.YtifmdkcpbajdcabPortsLaw
set_option linter.unusedVariables false
set_option linter.unusedSimpArgs false
namespace Go.Proofs.Ytifmdkcpbajdcab
open Go.RowKit Go.Proofs Plain

attribute [local go_sem] eq_kept4

set_option maxRecDepth 100000 in
set_option maxHeartbeats 8000000 in
theorem sameInts_big (l m : List Int) (A B : Option Addr) (c d : Nat) (w : World) (h1 : Sl w 1 A l.length (l.map (Value.int .i64))) (h2 : Sl w 1 B m.length (m.map (Value.int .i64))) (hl : l.length ≤ 9000000000000000000) (hm : m.length ≤ 9000000000000000000) :
    Calls Try.prog 18 #[.slice A l.length c, .slice B m.length d] w fun e w' => e = .returned (.bool (decide (l = m))) ∧ Below w.heap.size w w' := by
  by_cases hlen : l.length = m.length
  · have HLN := Lib.hid hlen
    rw [← hlen] at h2 ⊢
    clear hlen
    have t0 : (((l.length : Nat) : Int) != (l.length : Int)) = false := by simp
    go_enter Try.func18, Try.ntmps18
    go_wp2_with fail
    go_loopw [13] (fun i wr => ∃ k n : Nat, k ≤ l.length ∧ i = .int .i64 k ∧ wr = w.drewN n ∧ ∀ j, j < k → l.getD j 0 = m.getD j 0) (fun i _ => l.length - (intOf i).toNat)
    case atStart => exact ⟨0, 0, Nat.zero_le _, rfl, rfl, fun j hj => absurd hj (by omega)⟩
    case round =>
      obtain ⟨k, n, hk, rfl, rfl, hall⟩ := hrel
      have HAL := Lib.hid hall
      clear hall
      by_cases hlt : k < l.length
      · obtain ⟨b3, off3, hA3, hbl3, hc3⟩ := ints_at h1 (by omega)
        subst hA3
        have e3 := hc3 k hlt
        obtain ⟨b5, off5, hA5, hbl5, hc5⟩ := ints_at (l := m) (by rw [← HLN.out]; exact h2) (by rw [← HLN.out]; omega)
        subst hA5
        have e5 := hc5 k (by rw [← HLN.out]; exact hlt)
        clear hc3 hc5
        by_cases he : l.getD k 0 = m.getD k 0
        · have HNX := Lib.hid (show ∀ j, j < k + 1 → l.getD j 0 = m.getD j 0 from fun j hj => by
            rcases (by omega : j < k ∨ j = k) with h | rfl
            · exact HAL.out j h
            · exact he)
          rw [← he] at e5
          clear he
          generalize l.getD k 0 = t at *
          have t2 : (t != t) = false := by simp
          go_wp2_with fail
          go_quiet (fail)
          go_wp2_with fail
          go_roundw
          case rel => exact ⟨k + 1, n + nq, by omega, by go_num, by first | trivial | rw [World.drewN_drewN], HNX.out⟩
          case measure => simp [intOf] <;> omega
        · have HNO := Lib.hid (show decide (l = m) = false by simp only [decide_eq_false_iff_not]; rintro rfl; exact he rfl)
          generalize l.getD k 0 = t at *
          generalize m.getD k 0 = u at *
          obtain ⟨a1, a2, a3⟩ := ne_facts' he
          go_wp2_with fail
          go_quiet (fail)
          go_wp2_with fail
          go_ret
          exact ⟨ret_bool HNO.out.symm, below_drewN (below_drewN (Below.refl _ _) _) _⟩
      · obtain rfl : k = l.length := by omega
        have HYES := Lib.hid (show decide (l = m) = true by simp only [decide_eq_true_eq]; exact getD_ext' HLN.out HAL.out)
        go_wp2_with fail
        go_ret
        exact ⟨ret_bool HYES.out.symm, below_drewN (Below.refl _ _) _⟩
  · have HNO := Lib.hid (show decide (l = m) = false by simp only [decide_eq_false_iff_not]; rintro rfl; exact hlen rfl)
    have t0 : (((l.length : Nat) : Int) != (m.length : Int)) = true := by simp; omega
    go_enter Try.func18, Try.ntmps18
    go_wp2_with fail
    go_ret
    exact ⟨ret_bool HNO.out.symm, Below.refl _ _⟩

set_option maxRecDepth 100000 in
set_option maxHeartbeats 8000000 in
theorem samePort_big (p : Port) (A B : Option Addr) (c d : Nat) (w : World) (h1 : InP w p A) (h2 : InP w p B) (hl : p.ships.length ≤ 9000000000000000000) :
    Calls Try.prog 25 #[.agg (portA p A c), .agg (portA p B d)] w fun e w' => e = .returned (.bool true) ∧ Below w.heap.size w w' := by
  have t1 : (p.now != p.now) = false := by simp
  have t2 : (p.shut != p.shut) = false := by simp
  have t3 : (p.next != p.next) = false := by simp
  have t4 : (((p.ships.length : Nat) : Int) != (p.ships.length : Int)) = false := by simp
  have hP0 : PortAt ((w.alloc (.cells (portA p A c) 27)).alloc (.cells (portA p B d) 27)) w.heap.size p A c := (PortAt.new w p A c).alloc _
  have hQ0 : PortAt ((w.alloc (.cells (portA p A c) 27)).alloc (.cells (portA p B d) 27)) (w.heap.size + 1) p B d := by
    have := PortAt.new (w.alloc (.cells (portA p A c) 27)) p B d
    simpa using this
  have hB0 : Below w.heap.size w ((w.alloc (.cells (portA p A c) 27)).alloc (.cells (portA p B d) 27)) := ((Below.refl _ _).alloc (Nat.le_refl _) _).alloc (by simp) _
  simp only [portA] at hP0 hQ0 hB0 ⊢
  go_enter Try.func25, Try.ntmps25
  go_wp2_with fail
  go_loopw [44] (fun i wr => ∃ k : Nat, k ≤ p.ships.length ∧ i = .int .i64 k ∧ PortAt wr w.heap.size p A c ∧ PortAt wr (w.heap.size + 1) p B d ∧ Below w.heap.size w wr) (fun i _ => p.ships.length - (intOf i).toNat)
  case atStart => exact ⟨0, Nat.zero_le _, rfl, hP0, hQ0, hB0⟩
  case round =>
    clear hP0 hQ0 hB0
    obtain ⟨k, hk, rfl, hP, hQ, hB⟩ := hrel
    have q1 := hP.ships
    have q2 := hQ.ships
    have q3 := hP.lt
    have q4 := hQ.lt
    by_cases hlt : k < p.ships.length
    · obtain ⟨b, off, hA, hbl, hcells⟩ := ships_at (Sl.below h1 hB) (by omega)
      subst hA
      obtain ⟨b2, off2, hA2, hbl2, hcells2⟩ := ships_at (Sl.below h2 hB) (by omega)
      subst hA2
      obtain ⟨d1, d2, d3, d4, d5, d6⟩ := hcells k hlt
      obtain ⟨f1, f2, f3, f4, f5, f6⟩ := hcells2 k hlt
      clear hcells hcells2
      generalize p.ships.getD k Ship.zero = x at *
      obtain ⟨xs, xw, xl, xc, xi, xq⟩ := x
      dsimp only at *
      go_wp2_with fail
      go_quiet (fail)
      go_wp2_with fail
      go_roundw
      case rel => exact ⟨k + 1, by omega, by go_num, hP.drewN _, hQ.drewN _, below_drewN hB _⟩
      case measure => simp [intOf] <;> omega
    · obtain rfl : k = p.ships.length := by omega
      go_wp2_with fail
      go_ret
      exact ⟨rfl, hB⟩

theorem int_infT : (Try.prog.info? 3).map (fun i => (i.zero, i.size, i.bytes)) = some (some (.int .i64 0), 1, 8) := by kernel_rfl

theorem ownI_frT {w : World} {base c n : Nat} {A : Option Addr} {T : TypeId} {size : Nat} {xs : List Value} (h : w.ownsRow base T size (.slice A n c) n xs) : Fr base A := by
  rcases h.2 with ⟨hv, _⟩ | ⟨g, cap, cur, hv, hg, _⟩
  · injection hv with hA _ _; subst hA; exact Fr.none _
  · injection hv with hA _ _; subst hA; exact Fr.some hg
theorem sl_offT {w w' : World} {size n g : Nat} {A : Option Addr} {xs : List Value} (h : Sl w size A n xs) (hr : OneRow g w w') (hA : Fr (g + 1) A) : Sl w' size A n xs :=
  ⟨h.1, fun hn => by
    obtain ⟨b, off, e, hc⟩ := h.2 hn
    have := hA _ e
    exact ⟨b, off, e, fun j hj => (hr.cell b (off + j) (by simp at this; omega)).trans (hc j hj)⟩⟩
def RetDueG (p : Port) (plan : List Int) (w : World) (e : Ending) (w' : World) : Prop :=
  ∃ A c B d, e = .returned (.tuple #[.agg (portA (dueL p plan) A c), .slice B (whoL p plan).length d]) ∧ InP w' (dueL p plan) A ∧ Sl w' 1 B (whoL p plan).length ((natsI (whoL p plan)).map (Value.int .i64)) ∧ Below w.heap.size w w' ∧ Fr w.heap.size A ∧ Fr w.heap.size B
set_option maxRecDepth 100000 in
set_option maxHeartbeats 16000000 in
theorem due_bigG (p : Port) (A : Option Addr) (c : Nat) (plan : List Int) (B : Option Addr) (d : Nat) (w : World) (hg : PWf p) (hlen : p.ships.length * 48 ≤ 140737488355328) (hin : InP w p A)
    (hpl : plan.length * 8 ≤ 140737488355328) (hsl : Sl w 1 B plan.length (plan.map (Value.int .i64))) :
    Calls Try.prog 11 #[.agg (portA p A c), .slice B plan.length d] w (RetDueG p plan w) := by
  have hn2 := hg.now
  have HGD := Lib.hid hg
  have HLS := Lib.hid (due_ships2 p plan)
  have HWA := Lib.hid (who_all p plan)
  clear hg
  simp only [portA]
  go_enter Try.func11, Try.ntmps11
  have hP0 : PortAt ((w.alloc (.cells (portA p A c) 27)).alloc (.cells (portA Port.zero none 0) 27)) w.heap.size p A c := (PortAt.new w p A c).alloc _
  have hZ0 : PortAt ((w.alloc (.cells (portA p A c) 27)).alloc (.cells (portA Port.zero none 0) 27)) (w.heap.size + 1) Port.zero none 0 := by
    have := PortAt.new (w.alloc (.cells (portA p A c) 27)) Port.zero none 0
    simpa using this
  have hB0 : Below w.heap.size w ((w.alloc (.cells (portA p A c) 27)).alloc (.cells (portA Port.zero none 0) 27)) := ((Below.refl _ _).alloc (Nat.le_refl _) _).alloc (by simp) _
  have hs0 : ((w.alloc (.cells (portA p A c) 27)).alloc (.cells (portA Port.zero none 0) 27)).heap.size = w.heap.size + 2 := by simp
  simp only [portA, Port.zero, Port.keep, Kept.zero, List.getD_cons_zero, List.getD_cons_succ, List.length_nil] at hP0 hZ0 hB0 hs0
  go_wp2_with (refine wpList_load_port rfl rfl (by first | rfl | simp [Act.eval, Act.put]) hP0 ?_)
  refine (ownP_big p A c _ (Sl.below hin hB0) hlen).mono ?_
  rintro e w2 ⟨A2, c2, rfl, ho2, hb2⟩
  have hs2 := hb2.size
  rw [hs0] at hs2 ho2
  have hP2 := PortAt.below (p := p) (A := A) (c := c) hP0 hb2 (by rw [hs0]; omega)
  have hZ2 := PortAt.below (p := Port.zero) (A := none) (c := 0) hZ0 hb2 (by rw [hs0]; omega)
  have hB2 := below_go hB0 hb2
  clear hP0 hZ0 hB0 hb2 hs0
  go_wp2_with (refine wpList_store_port (p := p) (A := A) (c := c) (q := p) (B := A2) (d := c2) rfl rfl (by first | rfl | simp [Act.eval, Act.put]) (by first | rfl | simp [Act.eval, Act.put]) hP2 ?_; intro w3 hP3 hr3)
  have hZ3 := hZ2.one hr3 (by omega)
  have hB3 := hB2.trans (hr3.below (n := w.heap.size) (Nat.le_refl _))
  have ho3 : OwnK w3 (w.heap.size + 2) (.slice A2 p.ships.length c2) p.ships := own_one ho2 hr3 (by omega)
  clear hP2 hZ2 hB2 ho2
  have hz0 := step_zero (dueF p plan) p.ships
  have hsz3 := hr3.size
  clear hr3
  have hbl3 : ∀ x, (Value.slice A2 p.ships.length c2).ownBlock = some x → x < w3.heap.size := fun x hx => by
    rcases ho3.2 with ⟨hv, _⟩ | ⟨gg, cap, cur, hv, _, hh, _⟩
    · rw [hv] at hx; cases hx
    · rw [hv] at hx; simp only [Value.ownBlock, Option.some.injEq] at hx
      have := (Array.getElem?_eq_some_iff.1 hh).1
      omega
  have hw3 : w.heap.size + 2 ≤ w3.heap.size := by omega
  go_loopw [13, 6] (fun i v wr => ∃ k : Nat, k ≤ plan.length ∧ i = .int .i64 k ∧ OwnK wr (w.heap.size + 2) (.slice A2 p.ships.length c2) (stepTo (dueF p plan) p.ships k) ∧ OwnI wr w3.heap.size v (natsI (whoTo p plan k)) ∧ PortAt wr w.heap.size p A2 c2 ∧ PortAt wr (w.heap.size + 1) Port.zero none 0 ∧ Below w.heap.size w wr ∧ w3.heap.size ≤ wr.heap.size) (fun i _ _ => plan.length - (intOf i).toNat)
  case atStart => exact ⟨0, Nat.zero_le _, rfl, by rw [hz0]; exact ho3, OwnI.nil _ _, hP3, hZ3, hB3, Nat.le_refl _⟩
  case round =>
    clear hP3 hZ3 hB3 ho3 hz0 hsz3
    obtain ⟨k, hk, rfl, ho, hown, hP, hZ, hB, hsz⟩ := hrel
    have q0 := hP.now
    have q1 := hP.ships
    have hll := step_len (dueF p plan) p.ships k
    have hwl := who_len p plan k
    have hnl := natsI_len (whoTo p plan k)
    by_cases hlt : k < plan.length
    · obtain ⟨b3, off3, hA3, hbl, hc3⟩ := ints_at (l := plan) (Sl.below hsl hB) (by omega)
      subst hA3
      have e3 := hc3 k hlt
      clear hc3
      have hd : plan.getD k 0 = plan.getD k (-1) := by
        rw [List.getD_eq_getElem?_getD, List.getD_eq_getElem?_getD, List.getElem?_eq_getElem hlt]; rfl
      rw [hd] at e3
      have HD := Lib.hid (show isDue p plan k = (decide (k < plan.length) && decide (plan.getD k (-1) = p.now) && decide ((p.ship k).state = 1)) from rfl)
      have HWY := Lib.hid (fun h => @who_yes p plan k h)
      have HWN := Lib.hid (@who_no p plan k)
      have HSM := Lib.hid (fun e => step_same (dueF p plan) p.ships k e)
      have HF := Lib.hid (show dueF p plan k (p.ship k) = if isDue p plan k = true then { p.ship k with state := 3, since := p.now } else p.ship k from rfl)
      clear hd
      generalize plan.getD k (-1) = t at *
      by_cases hkn : k < p.ships.length
      · have HNX := Lib.hid (step_next (dueF p plan) p.ships k hkn)
        have hgk := step_get (dueF p plan) p.ships k k hkn
        rw [if_neg (Nat.lt_irrefl k)] at hgk
        change (stepTo (dueF p plan) p.ships k).getD k Ship.zero = p.ship k at hgk
        generalize stepTo (dueF p plan) p.ships k = L at *
        have ho' : OwnK wr (w.heap.size + 2) (.slice A2 L.length c2) L := by rw [hll]; exact ho
        have hP' : PortAt wr w.heap.size { p with ships := L } A2 c2 := by
          unfold PortAt; rw [portA_ships p L A2 c2 hll]; exact hP
        have hog' : (Value.slice A2 L.length c2).ownBlock ≠ some w.heap.size := fun e => by have := own_block ho' _ e; omega
        obtain ⟨b, hA2, _, _⟩ := ownK_at ho' (by rw [hll]; omega)
        obtain ⟨_, F⟩ := found (p := { p with ships := L }) hP' ho' hog' (by show k < L.length; rw [hll]; exact hkn) hA2
        subst hA2
        have hbb : b < w3.heap.size := hbl3 b rfl
        have hpk : ({ p with ships := L } : Port).ship k = p.ship k := hgk
        have e0 := F.cells 0 (by omega)
        have e4 := F.cells 4 (by omega)
        rw [hpk] at e0 e4
        rw [Nat.add_zero] at e0
        have i0 := F.ice (k * 6)
        have i4 := F.ice (k * 6 + 4)
        have hFb := F.base
        have hne := F.ne
        clear F hpk hog' hP'
        have hp0 : p.ships.getD k Ship.zero = p.ship k := rfl
        rw [hp0] at HNX HSM
        clear hp0
        generalize p.ship k = x at *
        obtain ⟨st, wd, lg, cl, si, qu⟩ := x
        simp only [shipV] at e0 e4
        change wr.cell? _ = some (.int .i64 st) at e0
        change wr.cell? _ = some (.int .i64 si) at e4
        dsimp only at HD HF
        by_cases ht : t = p.now
        · have dt : (t == p.now) = true := by simpa using ht
          by_cases h1 : st = 1
          · have d1 : (st == 1) = true := by simpa using h1
            have hdue : isDue p plan k = true := by rw [HD.out, decide_eq_true hlt, decide_eq_true ht, decide_eq_true h1]; rfl
            have HE := Lib.hid (show L.set k ⟨3, wd, lg, cl, p.now, qu⟩ = stepTo (dueF p plan) p.ships (k + 1) by rw [← HNX.out, HF.out, if_pos hdue])
            have HW := Lib.hid (HWY.out hkn hdue)
            clear HNX HSM HF HWY HWN HD hdue
            go_wp2_with fail
            go_region
            have hog2 := own_gone (w := wr) (x := 3) (y := p.now) ho' (show k < L.length by rw [hll]; exact hkn)
            rw [hgk] at hog2
            dsimp only at hog2
            rw [HE.out] at hog2
            have hll2 := step_len (dueF p plan) p.ships (k + 1)
            rw [hll2] at hog2
            have hP5 := ((hP.beside ⟨b, k * 6, none⟩ (.int .i64 3) (by simpa using hne)).beside ⟨b, k * 6 + 4, none⟩ (.int .i64 p.now) (by simpa using hne))
            have hZ5 := ((hZ.beside ⟨b, k * 6, none⟩ (.int .i64 3) (by simp; omega)).beside ⟨b, k * 6 + 4, none⟩ (.int .i64 p.now) (by simp; omega))
            have hB5 := ((hB.setCell (p := ⟨b, k * 6, none⟩) (by simp; omega) (.int .i64 3)).setCell (p := ⟨b, k * 6 + 4, none⟩) (by simp; omega) (.int .i64 p.now)).drew
            have h5a := own_one (own_one hown (OneRow.of_cell wr ⟨b, k * 6, none⟩ (.int .i64 3)) hbb) (OneRow.of_cell (wr.setCell ⟨b, k * 6, none⟩ (.int .i64 3)) ⟨b, k * 6 + 4, none⟩ (.int .i64 p.now)) hbb
            have hown5 : OwnI ((wr.setCell ⟨b, k * 6, none⟩ (.int .i64 3)).setCell ⟨b, k * 6 + 4, none⟩ (.int .i64 p.now)).drew w3.heap.size _ (natsI (whoTo p plan k)) := h5a
            clear h5a
            have hO5 : OwnK ((wr.setCell ⟨b, k * 6, none⟩ (.int .i64 3)).setCell ⟨b, k * 6 + 4, none⟩ (.int .i64 p.now)).drew (w.heap.size + 2) (.slice (some ⟨b, 0, none⟩) p.ships.length c2) (stepTo (dueF p plan) p.ships (k + 1)) := hog2
            have hP5' : PortAt ((wr.setCell ⟨b, k * 6, none⟩ (.int .i64 3)).setCell ⟨b, k * 6 + 4, none⟩ (.int .i64 p.now)).drew w.heap.size p (some ⟨b, 0, none⟩) c2 := hP5
            have hZ5' : PortAt ((wr.setCell ⟨b, k * 6, none⟩ (.int .i64 3)).setCell ⟨b, k * 6 + 4, none⟩ (.int .i64 p.now)).drew (w.heap.size + 1) Port.zero none 0 := hZ5
            have hs5 : ((wr.setCell ⟨b, k * 6, none⟩ (.int .i64 3)).setCell ⟨b, k * 6 + 4, none⟩ (.int .i64 p.now)).drew.heap.size = wr.heap.size := by simp [World.setCell]
            generalize ((wr.setCell ⟨b, k * 6, none⟩ (.int .i64 3)).setCell ⟨b, k * 6 + 4, none⟩ (.int .i64 p.now)).drew = w5 at *
            have hs6 : w3.heap.size ≤ w5.heap.size := by omega
            clear hs5
            have ho6 := hown5.alloc (.cells #[.int .i64 k] 3)
            have hh := heap_alloc_new w5 (.cells #[.int .i64 k] 3)
            clear hP hZ hB hog2 hP5 hZ5 e0 e4 i0 i4 q0 q1
            go_wp2_with (at_builtin; refine wpList_append_intB rfl _ _ rfl w3.heap.size _ _ rfl ho6 w5.heap.size 1 k rfl hh (by rw [hnl]; omega) (by simp; omega) ?_; intro v' w' ho7 hg')
            go_roundw
            case rel =>
              refine ⟨k + 1, by omega, by go_num, own_grow (hO5.alloc _) hg' (fun x hx e => ?_), by rw [HW.out, natsI_snoc]; exact ho7, ?_, ?_, grown_below (hB5.alloc hB5.size _) hg' ho6 (by omega) (by simp; have := hB5.size; omega), Nat.le_trans (by simp; omega) hg'.size⟩
              · simp only [Value.ownBlock, Option.some.injEq] at hx
                have := own_block ho6 _ e.symm
                omega
              · exact (hg'.block _ (by have := hP5'.lt; simp; omega) (fun e => by have := own_block ho6 _ e.symm; omega)).trans (hP5'.alloc _)
              · exact (hg'.block _ (by have := hZ5'.lt; simp; omega) (fun e => by have := own_block ho6 _ e.symm; omega)).trans (hZ5'.alloc _)
            case measure => simp [intOf] <;> omega
          · have d1 : (st == 1) = false := by simpa using h1
            have hdue : isDue p plan k = false := by rw [HD.out, decide_eq_false h1]; simp
            have HE := Lib.hid (show stepTo (dueF p plan) p.ships (k + 1) = L from HSM.out (fun _ => by rw [HF.out, hdue]; rfl))
            have HW := Lib.hid (HWN.out (fun h => by rw [hdue] at h; cases h.2))
            clear HNX HSM HF HWY HWN HD hdue
            go_wp2_with fail
            go_roundw
            case rel => exact ⟨k + 1, by omega, by go_num, by rw [HE.out]; exact ho, by rw [HW.out]; exact hown, hP, hZ, hB, hsz⟩
            case measure => simp [intOf] <;> omega
        · have dt : (t == p.now) = false := by simpa using ht
          have hdue : isDue p plan k = false := by rw [HD.out, decide_eq_false ht]; simp
          have HE := Lib.hid (show stepTo (dueF p plan) p.ships (k + 1) = L from HSM.out (fun _ => by rw [HF.out, hdue]; rfl))
          have HW := Lib.hid (HWN.out (fun h => by rw [hdue] at h; cases h.2))
          clear HNX HSM HF HWY HWN HD hdue
          go_wp2_with fail
          go_roundw
          case rel => exact ⟨k + 1, by omega, by go_num, by rw [HE.out]; exact ho, by rw [HW.out]; exact hown, hP, hZ, hB, hsz⟩
          case measure => simp [intOf] <;> omega
      · have dk : decide ((k : Int) < (p.ships.length : Int)) = false := by simp; omega
        have HE := Lib.hid (show stepTo (dueF p plan) p.ships (k + 1) = stepTo (dueF p plan) p.ships k from HSM.out (fun h => absurd h hkn))
        have HW := Lib.hid (HWN.out (fun h => hkn h.1))
        clear HSM HF HWY HWN HD
        go_wp2_with fail
        go_roundw
        case rel => exact ⟨k + 1, by omega, by go_num, by rw [HE.out]; exact ho, by rw [HW.out]; exact hown, hP, hZ, hB, hsz⟩
        case measure => simp [intOf] <;> omega
    · obtain rfl : k = plan.length := by omega
      obtain ⟨B5, d5, hv⟩ := own_form hown
      subst hv
      have hwa := HWA.out
      rw [hwa] at hown hnl
      rw [hwa, hnl]
      go_wp2_with (first
        | (refine wpList_load_port (p := p) (A := A2) (c := c2) rfl rfl (by first | rfl | simp [Act.eval, Act.put]) hP ?_)
        | (refine wpList_store_port rfl rfl (by first | rfl | simp [Act.eval, Act.put]) (by first | rfl | simp [Act.eval, Act.put]) hZ ?_; intro w4 hZ4 hr4))
      refine bodyPost_ret (results_port2 rfl _ _ (w.heap.size + 1) rfl hZ4) rfl ?_
      have ho5 := own_one ho hr4 (by omega)
      have hown4 := own_one hown hr4 (by omega)
      have hB6 := hB.trans (hr4.below (n := w.heap.size) (by omega))
      rw [← HLS.out] at ho5
      have hl5 : (dueL p plan).ships.length = p.ships.length := by rw [HLS.out, step_len]
      have hfr : Fr (w.heap.size + 2) A2 := by
        rcases ho5.2 with ⟨hv, _⟩ | ⟨g, cap, cur, hv, hg, _⟩
        · injection hv with hA _ _; subst hA; exact Fr.none _
        · injection hv with hA _ _; subst hA; exact Fr.some hg
      refine ⟨A2, c2, B5, d5, ?_, ?_, ?_, hB6, hfr.mono (by omega), (ownI_frT hown4).mono (by omega)⟩
      · have e : portA (dueL p plan) A2 c2 = portA p A2 c2 := portA_ships p (dueL p plan).ships A2 c2 hl5
        rw [e]; rfl
      · unfold InP
        have := Sl.of_own (w := w4) (base := w.heap.size + 2) (e := 38) (size := 6) (A := A2) (n := (dueL p plan).ships.length) (c := c2) (by rw [hl5]; rw [hl5] at ho5; exact ho5)
        exact this
      · have := Sl.of_own hown4
        rw [hnl] at this
        exact this

/-- Who is due stands in two slots. -/
def PDued (D : Port) (who : List Nat) (w1 : World) (x y : Value) (wq : World) : Prop :=
  ∃ k A c B d, x = .pointer (some ⟨k, 0, none⟩) ∧ y = .slice B who.length d ∧ PortAt wq k D A c ∧ InP wq D A ∧ Sl wq 1 B who.length ((natsI who).map (Value.int .i64)) ∧ Below w1.heap.size w1 wq
theorem PDued.mk {D : Port} {who : List Nat} {w1 wq : World} {k c d : Nat} {A B : Option Addr} (h6 : PortAt wq k D A c) (hi : InP wq D A) (hj : Sl wq 1 B who.length ((natsI who).map (Value.int .i64))) (hb : Below w1.heap.size w1 wq) :
    PDued D who w1 (.pointer (some ⟨k, 0, none⟩)) (.slice B who.length d) wq := ⟨k, A, c, B, d, rfl, rfl, h6, hi, hj, hb⟩
theorem int_cells1 (l : List Int) : ∀ u ∈ l.map (Value.int .i64), u.oneCell' = true := fun u hu => by
  obtain ⟨s, _, rfl⟩ := List.mem_map.1 hu
  rfl
/-- A copy by append, as an operation. -/
theorem oper_append_copy {P : Program} {o : Oper} {a : Act} {w : World} {Q : Exit → Act → World → Prop} {K : Act → World → Prop} (s x : Operand) (t : TypeId) (ho : o.op = .call { callee := .builtin .append, args := #[s, x], argTypes := #[t, t] })
    (base : Nat) (e : TypeId) (i : TypeInfo) (z : Value) (size bytes : Nat) (ht : P.underlying t = some (.slice e)) (hi : P.info? e = some i) (hz : i.zero = some z)
    (hsize : i.size = size) (hby : i.bytes = bytes) (hzs : z.cells.size = size) (hsz : 0 < size) (hs : a.eval s = .slice none 0 0)
    (A : Option Addr) (n c : Nat) (xs : List Value) (hx : a.eval x = .slice A n c) (hsl : Sl w size A n xs) (h1 : ∀ u ∈ xs, u.oneCell' = true) (h63 : n ≤ maxLen) (hbytes : n * bytes ≤ 140737488355328) (hbase : base ≤ w.heap.size)
    (h : ∀ v' w', w'.ownsRow base e size v' n xs → Below w.heap.size w w' → K (a.put o.dst v') w') : o.wp P a w K Q := by
  have hown : w.ownsRow base e size (.slice none 0 0) 0 [] := ⟨by simp, .inl ⟨rfl, rfl⟩⟩
  cases A with
  | none =>
    have hn : n = 0 := by
      rcases Nat.eq_zero_or_pos n with h0 | h0
      · exact h0
      · obtain ⟨b, off, e, _⟩ := hsl.2 (Nat.mul_pos h0 hsz); cases e
    subst hn
    have hxs : xs = [] := List.eq_nil_of_length_eq_zero (by rw [hsl.1]; simp)
    subst hxs
    have hrun := run_append_nothing (P := P) (w := w) base t o.type e i size ht hi _ 0 [] hown c
    unfold Oper.wp
    simp [execOp, ho, resolve, invoke, builtin, hs, hx, hrun, Result.andThen]
    exact h _ _ hown (Below.refl _ _)
  | some ad =>
    refine wp_append_own w s x t ho base e i z size bytes ht hi hz hsize hby hzs hsz _ 0 [] hs hown ad n c xs hx hsl.1 (fun j u hj => ?_) h1 (by omega) (by rw [Nat.zero_add]; exact hbytes) hbase fun v' w' ho' hg' _ => ?_
    · have hpos : 0 < n * size := by
        have := (List.getElem?_eq_some_iff.1 hj).1
        rw [hsl.1] at this; omega
      obtain ⟨b, off, e, _⟩ := hsl.2 hpos
      injection e with e
      subst e
      exact hsl.news j u hj
    · rw [Nat.zero_add, List.nil_append] at ho'
      exact h v' w' ho' ((Below.refl _ _).grown hg' (Nat.le_refl _) (fun k hk => by cases hk))

theorem exec_load_pt {o : Oper} {a : Act} {w : World} {x : Operand} {g : Nat} {p : Port} {A : Option Addr} {c : Nat} (ho : o.op = .load 27 x) (hx : a.eval x = .pointer (some ⟨g, 0, none⟩)) (hf : PortAt w g p A c) :
    (execOp a.eval o).run Try.prog w = .ok (.value (.agg (portA p A c))) w := by
  unfold execOp
  simp only [ho, hx, Instr.loadAt, Instr.sureAddr, Sem.run_bind, Sem.run_pure, Result.andThen_ok, load_port_run hf]
theorem oper_store_port {o : Oper} {a : Act} {w : World} {Q : Exit → Act → World → Prop} {K : Act → World → Prop} {x y : Operand} {g : Nat} {p q : Port} {A B : Option Addr} {c d : Nat} (ho : o.op = .store 27 x y)
    (hx : a.eval x = .pointer (some ⟨g, 0, none⟩)) (hy : a.eval y = .agg (portA q B d)) (hf : PortAt w g p A c)
    (h : ∀ w', PortAt w' g q B d → OneRow g w w' → K (a.put o.dst undef) w') : o.wp Try.prog a w K Q :=
  have h := h _ (hf.row q B d) (OneRow.of_row w g _)
  wp_store_row _ x y ho g _ hx hy _ _ hf port_size rfl (portA_one q B d) h

theorem later_len2 (p : Port) : (laterL p).ships.length = p.ships.length := later_len p
/-- What time makes of a port. -/
def laterR (p : Port) : Port × Int := if goodP p = true then (if p.now = 299 then (p, 2) else (laterL p, 0)) else (p, 1)
/-- What an order makes of a port. -/
def tellR (p : Port) (o : Order) : Port × Int × Int := if goodP p = true then tellL p o else (p, 0, 1)
theorem laterR_len (p : Port) : (laterR p).1.ships.length = p.ships.length := by
  unfold laterR
  split
  · split
    · rfl
    · exact later_len p
  · rfl
theorem tellR_len (p : Port) (o : Order) (hp : PWf p) (h : p.ships.length ≤ 9000000000000000000) : (tellR p o).1.ships.length ≤ 9000000000000000000 := by
  unfold tellR
  split
  · rename_i hg
    have := ((tell_good (o := o) ((goodP_iff hp.four).1 hg)).1).len; omega
  · exact h

theorem tell_both (p : Port) (o : Order) (hp : PWf p) :
    (∀ A c w, InP w p A → Calls Try.prog 21 #[.agg (portA p A c), .agg (orderA o)] w (RetTellP (tellR p o) w)) ∧
    (∀ A c w, p.ships.length ≤ c → InP w p A → Calls Try.prog 22 #[.agg (portA p A c), .agg (orderA o)] w (RetTellC (tellR p o) w)) := by
  unfold tellR
  cases hg : goodP p with
  | true =>
    have h := (goodP_iff hp.four).1 hg
    exact ⟨fun A c w hi => tell_good_walk p A c o w h hi (tellOk_all h o), fun A c w hc hi => refTell_any p A c o w h hc hi⟩
  | false => exact ⟨fun A c w hi => tell_bad p A c o w hp hi hg, fun A c w hc hi => refTell_bad p A c o w hp hc hi hg⟩
theorem later_both (p : Port) (hp : PWf p) :
    (∀ A c w, InP w p A → Calls Try.prog 12 #[.agg (portA p A c)] w (RetP2 (laterR p) w)) ∧
    (∀ A c w, p.ships.length ≤ c → InP w p A → Calls Try.prog 23 #[.agg (portA p A c)] w (RetP2C (laterR p) w)) := by
  unfold laterR
  cases hg : goodP p with
  | true =>
    have h := (goodP_iff hp.four).1 hg
    have hn := h.now
    by_cases h9 : p.now = 299
    · rw [if_pos rfl, if_pos h9]
      exact ⟨fun A c w hi => later_end p A c w h hi (by omega), fun A c w hc hi => refLater_end p A c w h hc hi h9⟩
    · rw [if_pos rfl, if_neg h9]
      exact ⟨fun A c w hi => later_walk p A c w h hi (by omega), fun A c w hc hi => refLater_walk p A c w h hc hi (by omega)⟩
  | false => exact ⟨fun A c w hi => later_bad p A c w hp hi hg, fun A c w hc hi => refLater_bad p A c w hp hc hi hg⟩

set_option maxRecDepth 100000 in
set_option maxHeartbeats 40000000 in
theorem portTurns_walk (p : Port) (A : Option Addr) (c : Nat) (o : Order) (plan : List Int) (B : Option Addr) (d : Nat) (w : World) (hp : PWf p) (hin : InP w p A) (hcap : p.ships.length ≤ c) (hre : p.ships.length * 48 ≤ 140737488355328)
    (hsl : Sl w 1 B plan.length (plan.map (Value.int .i64))) (hrp : plan.length * 8 ≤ 140737488355328) :
    Calls Try.prog 7 #[.agg (portA p A c), .agg (orderA o), .slice B plan.length d] w fun e w' => e = .returned (.bool true) ∧ Below w.heap.size w w' := by
  obtain ⟨hT1, hT2⟩ := tell_both p o hp
  obtain ⟨hL1, hL2⟩ := later_both p hp
  have HT1 := Lib.hid hT1
  have HT2 := Lib.hid hT2
  have HL1 := Lib.hid hL1
  have HL2 := Lib.hid hL2
  have HCP := Lib.hid (fun w h => copyP_any p A c w h hp.len hre)
  have HD1 := Lib.hid (fun A c B d w h1 h2 => due_bigG p A c plan B d w hp hre h1 hrp h2)
  have HD2 := Lib.hid (fun A c B d w h1 h2 => refDue_any p A c plan B d w hp hre h1 hrp h2)
  have HTL := Lib.hid (tellR_len p o hp (by omega))
  have HLL := Lib.hid (show (laterR p).1.ships.length ≤ 9000000000000000000 by rw [laterR_len]; omega)
  have HDL := Lib.hid (show (dueL p plan).ships.length ≤ 9000000000000000000 by rw [show (dueL p plan).ships.length = p.ships.length from turn_len _ _]; omega)
  have HWL := Lib.hid (show (natsI (whoL p plan)).length ≤ 9000000000000000000 by
    rw [natsI_len]
    have h := List.length_filter_le (isDue p plan) (List.range p.ships.length)
    rw [List.length_range] at h
    unfold whoL
    omega)
  have HPL := Lib.hid (show p.ships.length ≤ 9000000000000000000 by omega)
  have HPO := Lib.hid (fun w => ports_law w)
  have HRP := Lib.hid (show plan.length ≤ maxLen ∧ plan.length * 8 ≤ 140737488355328 by unfold maxLen; omega)
  have HIN := Lib.hid hin
  have HSL := Lib.hid hsl
  have HCA := Lib.hid hcap
  clear hT1 hT2 hL1 hL2 hp hre hrp hcap
  unfold RetDueG at HD1
  unfold RetDueC at HD2
  generalize tellR p o = r at *
  generalize laterR p = l at *
  generalize dueL p plan = D at *
  generalize whoL p plan = who at *
  obtain ⟨q, n, er⟩ := r
  obtain ⟨x, el⟩ := l
  dsimp only at HTL HLL
  clear hin hsl
  obtain ⟨ok, oa, ob, oc⟩ := o
  simp only [portA, orderA]
  go_enter Try.func7, Try.ntmps7
  have hP0 : PortAt ((w.alloc (.cells (portA p A c) 27)).alloc (.cells (orderA ⟨ok, oa, ob, oc⟩) 45)) w.heap.size p A c := (PortAt.new w p A c).alloc _
  have hO0 : ((w.alloc (.cells (portA p A c) 27)).alloc (.cells (orderA ⟨ok, oa, ob, oc⟩) 45)).heap[w.heap.size + 1]? = some (.cells (orderA ⟨ok, oa, ob, oc⟩) 45 (0, 0)) := by
    have h1 := heap_alloc_new (w.alloc (.cells (portA p A c) 27)) (.cells (orderA ⟨ok, oa, ob, oc⟩) 45)
    simpa using h1
  have hB0 : Below w.heap.size w ((w.alloc (.cells (portA p A c) 27)).alloc (.cells (orderA ⟨ok, oa, ob, oc⟩) 45)) := ((Below.refl _ _).alloc (Nat.le_refl _) _).alloc (by simp) _
  have hs0 : ((w.alloc (.cells (portA p A c) 27)).alloc (.cells (orderA ⟨ok, oa, ob, oc⟩) 45)).heap.size = w.heap.size + 2 := by simp
  obtain ⟨W0, hW0⟩ : ∃ W0, W0 = ((w.alloc (.cells (portA p A c) 27)).alloc (.cells (orderA ⟨ok, oa, ob, oc⟩) 45)) := ⟨_, rfl⟩
  rw [← hW0] at hP0 hO0 hB0 hs0
  simp only [portA, orderA] at hW0
  have HW0 := Lib.hid hW0
  clear hW0
  go_upto_region 1 with (fail)
  rw [← HW0.out]
  clear HW0
  have hP_0 := hP0
  have hO_0 := hO0
  have hB_0 := hB0
  clear hP0 hO0 hB0 hs0
  as_aux_lemma =>
  go_upto_region 2 with (first
    | (refine wpList_load_port rfl rfl ?hx hP_0 ?_; (case hx => first | rfl | (simp [Act.eval, Act.put]; done)))
    | (go_at_call 16; refine (HCP.out _ (Sl.below HIN.out hB_0)).mono ?_; rintro e V0 ⟨A1, c1, rfl, ho1, hbV⟩; have hz := PortAt.new V0 Port.zero none 0)
    | (refine wpList_store_port rfl rfl (by first | rfl | simp [Act.eval, Act.put]) (by first | rfl | simp [Act.eval, Act.put]) hz ?_; intro W1 hN hr))
  have hbN : Below V0.heap.size V0 W1 := ((Below.refl _ _).alloc (Nat.le_refl _) _).trans (hr.below (Nat.le_refl _))
  have hb : Below W0.heap.size W0 W1 := hbV.trans (hbN.mono hbV.size)
  have iC_1 : InP W1 p A1 := Sl.below (Sl.of_own ho1) hbN
  clear ho1
  have hP_1 := hP_0.below hb hP_0.lt
  have hO_1 := (hb.block (w.heap.size + 1) (Array.getElem?_eq_some_iff.1 hO_0).1).trans hO_0
  have hB_1 := below_go hB_0 hb
  clear hP_0 hO_0 hB_0
  obtain ⟨gC, hg⟩ : ∃ gC, V0.heap.size = gC := ⟨_, rfl⟩
  rw [hg] at hN
  try rw [hg]
  have hC_1 := hN
  clear hN hr hz hbN hb hbV hg
  have hoc : ∀ i, i < 4 → W1.cell? ⟨w.heap.size + 1, i, none⟩ = (orderA ⟨ok, oa, ob, oc⟩)[i]? := fun i hi => cell_of_row _ _ i _ _ _ hO_1
  have o0 := hoc 0 (by omega)
  have o1 := hoc 1 (by omega)
  have o2 := hoc 2 (by omega)
  have o3 := hoc 3 (by omega)
  simp only [orderA] at o0 o1 o2 o3
  clear hoc
  as_aux_lemma =>
  go_upto_region 3 with (first
    | (refine wpList_load_port rfl rfl ?hx hC_1 ?_; (case hx => first | rfl | (simp [Act.eval, Act.put]; done)))
    | (go_at_call 21; refine (HT1.out A1 c1 _ iC_1).mono ?_; rintro e V1 ⟨Aa, ca, rfl, iV, hbV⟩; have hz := PortAt.new V1 Port.zero none 0)
    | (refine wpList_store_port rfl rfl (by first | rfl | simp [Act.eval, Act.put]) (by first | rfl | simp [Act.eval, Act.put]) hz ?_; intro W2 hN hr))
  have hbN : Below V1.heap.size V1 W2 := ((Below.refl _ _).alloc (Nat.le_refl _) _).trans (hr.below (Nat.le_refl _))
  have hb : Below W1.heap.size W1 W2 := hbV.trans (hbN.mono hbV.size)
  have iTa_2 : InP W2 q Aa := Sl.below iV hbN
  clear iV
  have hP_2 := hP_1.below hb hP_1.lt
  have hC_2 := hC_1.below hb hC_1.lt
  have iC_2 : InP W2 p A1 := Sl.below iC_1 hb
  have hO_2 := (hb.block (w.heap.size + 1) (Array.getElem?_eq_some_iff.1 hO_1).1).trans hO_1
  have hB_2 := below_go hB_1 hb
  clear hP_1 hC_1 iC_1 hO_1 hB_1
  obtain ⟨gTa, hg⟩ : ∃ gTa, V1.heap.size = gTa := ⟨_, rfl⟩
  rw [hg] at hN
  try rw [hg]
  have hTa_2 := hN
  clear hN hr hz hbN hb hbV hg o0 o1 o2 o3
  have hoc : ∀ i, i < 4 → W2.cell? ⟨w.heap.size + 1, i, none⟩ = (orderA ⟨ok, oa, ob, oc⟩)[i]? := fun i hi => cell_of_row _ _ i _ _ _ hO_2
  have o0 := hoc 0 (by omega)
  have o1 := hoc 1 (by omega)
  have o2 := hoc 2 (by omega)
  have o3 := hoc 3 (by omega)
  simp only [orderA] at o0 o1 o2 o3
  clear hoc
  as_aux_lemma =>
  go_upto_region 4 with (first
    | (refine wpList_load_port rfl rfl ?hx hP_2 ?_; (case hx => first | rfl | (simp [Act.eval, Act.put]; done)))
    | (go_at_call 22; refine (HT2.out A c _ HCA.out (Sl.below HIN.out hB_2)).mono ?_; rintro e V2 ⟨Ab, cb, rfl, iV, _, hbV, _⟩; have hz := PortAt.new V2 Port.zero none 0)
    | (refine wpList_store_port rfl rfl (by first | rfl | simp [Act.eval, Act.put]) (by first | rfl | simp [Act.eval, Act.put]) hz ?_; intro W3 hN hr))
  have hbN : Below V2.heap.size V2 W3 := ((Below.refl _ _).alloc (Nat.le_refl _) _).trans (hr.below (Nat.le_refl _))
  have hb : Below W2.heap.size W2 W3 := hbV.trans (hbN.mono hbV.size)
  have iTb_3 : InP W3 q Ab := Sl.below iV hbN
  clear iV
  have hP_3 := hP_2.below hb hP_2.lt
  have hC_3 := hC_2.below hb hC_2.lt
  have hTa_3 := hTa_2.below hb hTa_2.lt
  have iC_3 : InP W3 p A1 := Sl.below iC_2 hb
  have iTa_3 : InP W3 q Aa := Sl.below iTa_2 hb
  have hO_3 := (hb.block (w.heap.size + 1) (Array.getElem?_eq_some_iff.1 hO_2).1).trans hO_2
  have hB_3 := below_go hB_2 hb
  clear hP_2 hC_2 hTa_2 iC_2 iTa_2 hO_2 hB_2
  obtain ⟨gTb, hg⟩ : ∃ gTb, V2.heap.size = gTb := ⟨_, rfl⟩
  rw [hg] at hN
  try rw [hg]
  have hTb_3 := hN
  clear hN hr hz hbN hb hbV hg o0 o1 o2 o3
  as_aux_lemma =>
  go_upto_region 5 with (first
    | (refine wpList_load_port rfl rfl ?hx hC_3 ?_; (case hx => first | rfl | (simp [Act.eval, Act.put]; done)))
    | (go_at_call 12; refine (HL1.out A1 c1 _ iC_3).mono ?_; rintro e V3 ⟨Ax, cx, rfl, iV, hbV⟩; have hz := PortAt.new V3 Port.zero none 0)
    | (refine wpList_store_port rfl rfl (by first | rfl | simp [Act.eval, Act.put]) (by first | rfl | simp [Act.eval, Act.put]) hz ?_; intro W4 hN hr))
  have hbN : Below V3.heap.size V3 W4 := ((Below.refl _ _).alloc (Nat.le_refl _) _).trans (hr.below (Nat.le_refl _))
  have hb : Below W3.heap.size W3 W4 := hbV.trans (hbN.mono hbV.size)
  have iLa_4 : InP W4 x Ax := Sl.below iV hbN
  clear iV
  have hP_4 := hP_3.below hb hP_3.lt
  have hC_4 := hC_3.below hb hC_3.lt
  have hTa_4 := hTa_3.below hb hTa_3.lt
  have hTb_4 := hTb_3.below hb hTb_3.lt
  have iC_4 : InP W4 p A1 := Sl.below iC_3 hb
  have iTa_4 : InP W4 q Aa := Sl.below iTa_3 hb
  have iTb_4 : InP W4 q Ab := Sl.below iTb_3 hb
  have hO_4 := (hb.block (w.heap.size + 1) (Array.getElem?_eq_some_iff.1 hO_3).1).trans hO_3
  have hB_4 := below_go hB_3 hb
  clear hP_3 hC_3 hTa_3 hTb_3 iC_3 iTa_3 iTb_3 hO_3 hB_3
  obtain ⟨gLa, hg⟩ : ∃ gLa, V3.heap.size = gLa := ⟨_, rfl⟩
  rw [hg] at hN
  try rw [hg]
  have hLa_4 := hN
  clear hN hr hz hbN hb hbV hg
  as_aux_lemma =>
  go_upto_region 6 with (first
    | (refine wpList_load_port rfl rfl ?hx hP_4 ?_; (case hx => first | rfl | (simp [Act.eval, Act.put]; done)))
    | (go_at_call 23; refine (HL2.out A c _ HCA.out (Sl.below HIN.out hB_4)).mono ?_; rintro e V4 ⟨Ay, cy, rfl, iV, _, hbV, _⟩; have hz := PortAt.new V4 Port.zero none 0)
    | (refine wpList_store_port rfl rfl (by first | rfl | simp [Act.eval, Act.put]) (by first | rfl | simp [Act.eval, Act.put]) hz ?_; intro W5 hN hr))
  have hbN : Below V4.heap.size V4 W5 := ((Below.refl _ _).alloc (Nat.le_refl _) _).trans (hr.below (Nat.le_refl _))
  have hb : Below W4.heap.size W4 W5 := hbV.trans (hbN.mono hbV.size)
  have iLb_5 : InP W5 x Ay := Sl.below iV hbN
  clear iV
  have hP_5 := hP_4.below hb hP_4.lt
  have hC_5 := hC_4.below hb hC_4.lt
  have hTa_5 := hTa_4.below hb hTa_4.lt
  have hTb_5 := hTb_4.below hb hTb_4.lt
  have hLa_5 := hLa_4.below hb hLa_4.lt
  have iC_5 : InP W5 p A1 := Sl.below iC_4 hb
  have iTa_5 : InP W5 q Aa := Sl.below iTa_4 hb
  have iTb_5 : InP W5 q Ab := Sl.below iTb_4 hb
  have iLa_5 : InP W5 x Ax := Sl.below iLa_4 hb
  have hO_5 := (hb.block (w.heap.size + 1) (Array.getElem?_eq_some_iff.1 hO_4).1).trans hO_4
  have hB_5 := below_go hB_4 hb
  clear hP_4 hC_4 hTa_4 hTb_4 hLa_4 iC_4 iTa_4 iTb_4 iLa_4 hO_4 hB_4
  obtain ⟨gLb, hg⟩ : ∃ gLb, V4.heap.size = gLb := ⟨_, rfl⟩
  rw [hg] at hN
  try rw [hg]
  have hLb_5 := hN
  clear hN hr hz hbN hb hbV hg
  obtain ⟨i0, hi0, hz0, hz1, hz2⟩ := info_parts int_infT
  go_cut [18, 19] (fun x18 x19 wr => PDued D who W5 x18 x19 wr)
  case first => as_aux_lemma =>
    refine wp_region_plans (S := fun w' => PortAt w' gC p A1 c1) (.take 0 (.take 1 (.two 2 7 (.two 3 7 (.take 4 (.take 5 (.take 6 (.one 7 (.one 8 (.take 9 (.fin))))))) (.one 3 (.take 4 (.take 5 (.take 6 (.one 8 (.take 9 (.fin)))))))) (.one 2 (.one 3 (.take 4 (.take 5 (.take 6 (.one 8 (.take 9 (.fin))))))))))) (by kernel_rfl) (by kernel_rfl) hC_5 ?_
    refine plan_take rfl (by rfl) (fun w' hw' => exec_load_pt rfl rfl hw') ?_
    try simp only [Act.put, List.getElem_toArray, List.getElem_cons_zero, List.getElem_cons_succ, List.setIfInBounds_toArray, List.set_cons_zero, List.set_cons_succ]
    refine plan_take (v := ?_) rfl (by rfl) (fun w' hw' => ?_) ?_
    rotate_left
    · go_simp; try with_reducible rfl
    try simp only [Act.put, List.getElem_toArray, List.getElem_cons_zero, List.getElem_cons_succ, List.setIfInBounds_toArray, List.set_cons_zero, List.set_cons_succ]
    refine plan_two ?_ ?_
    · skip
      refine plan_one rfl (by rfl) fun K hK => ?_
      refine oper_append_copy _ _ 30 rfl W5.drew.heap.size 3 i0 _ 1 8 Try.underlying30 hi0 hz0 hz1 hz2 rfl (by decide) (by first | rfl | simp [Act.eval, Act.put]) B plan.length d (plan.map (Value.int .i64)) (by first | rfl | simp [Act.eval, Act.put]) (Sl.drew (Sl.below HSL.out hB_5)) (int_cells1 _) HRP.out.1 HRP.out.2 (Nat.le_refl _) ?_
      intro v2 x2 ho2 hbx2
      obtain ⟨A2, c2, rfl⟩ := own_form ho2
      have hb2 : Below W5.heap.size W5 x2 := below_undrew hbx2
      refine hK.out _ _ (hC_5.below (hb2) hC_5.lt) ?_
      clear hK K
      try simp only [Act.put, List.getElem_toArray, List.getElem_cons_zero, List.getElem_cons_succ, List.setIfInBounds_toArray, List.set_cons_zero, List.set_cons_succ]
      refine plan_two ?_ ?_
      · skip
        refine plan_one rfl (by rfl) fun K hK => ?_
        go_simp
        go_at_call 11
        refine (HD1.out A1 c1 A2 c2 _ (Sl.below iC_5 hb2) (Sl.of_own ho2)).mono ?_
        rintro e x3 ⟨A3, c3, B3, d3, rfl, iV, jV, hbx3, hfA, hfB⟩
        have hb3 : Below W5.heap.size W5 x3 := below_go hb2 hbx3
        refine hK.out _ _ (hC_5.below (hb3) hC_5.lt) ?_
        clear hK K
        try simp only [Act.put, List.getElem_toArray, List.getElem_cons_zero, List.getElem_cons_succ, List.setIfInBounds_toArray, List.set_cons_zero, List.set_cons_succ]
        refine plan_take (v := ?_) rfl (by rfl) (fun w' hw' => ?_) ?_
        rotate_left
        · go_simp; try with_reducible rfl
        try simp only [Act.put, List.getElem_toArray, List.getElem_cons_zero, List.getElem_cons_succ, List.setIfInBounds_toArray, List.set_cons_zero, List.set_cons_succ]
        refine plan_take (v := ?_) rfl (by rfl) (fun w' hw' => ?_) ?_
        rotate_left
        · go_simp; try with_reducible rfl
        try simp only [Act.put, List.getElem_toArray, List.getElem_cons_zero, List.getElem_cons_succ, List.setIfInBounds_toArray, List.set_cons_zero, List.set_cons_succ]
        refine plan_take (v := ?_) rfl (by rfl) (fun w' hw' => ?_) ?_
        rotate_left
        · go_simp; try with_reducible rfl
        try simp only [Act.put, List.getElem_toArray, List.getElem_cons_zero, List.getElem_cons_succ, List.setIfInBounds_toArray, List.set_cons_zero, List.set_cons_succ]
        refine plan_one rfl (by rfl) fun K hK => ?_
        go_simp
        have hb4 := hb3.alloc hb3.size (.cells (portA Port.zero none 0) 27)
        refine hK.out _ _ (hC_5.below (hb4) hC_5.lt) ?_
        clear hK K
        try simp only [Act.put, List.getElem_toArray, List.getElem_cons_zero, List.getElem_cons_succ, List.setIfInBounds_toArray, List.set_cons_zero, List.set_cons_succ]
        refine plan_one rfl (by rfl) fun K hK => ?_
        refine oper_store_port rfl (by first | rfl | simp [Act.eval, Act.put]) (by first | rfl | simp [Act.eval, Act.put]) (PortAt.new x3 Port.zero none 0) ?_
        intro x5 h6 hr6
        have hb6 := hb4.trans (hr6.below hb3.size)
        have hx : Below x3.heap.size x3 x5 := ((Below.refl _ _).alloc (Nat.le_refl _) _).trans (hr6.below (Nat.le_refl _))
        have hk := hb3.size
        have HX := Lib.hid (PDued.mk (D := D) (who := who) h6 (Sl.below iV (hx)) (Sl.below jV (hx)) (hb6) (d := d3))
        refine hK.out _ _ (hC_5.below (hb6) hC_5.lt) ?_
        clear hK K h6 hr6 iV jV
        try simp only [Act.put, List.getElem_toArray, List.getElem_cons_zero, List.getElem_cons_succ, List.setIfInBounds_toArray, List.set_cons_zero, List.set_cons_succ]
        refine plan_take (v := ?_) rfl (by rfl) (fun w' hw' => ?_) ?_
        rotate_left
        · go_simp; try with_reducible rfl
        try simp only [Act.put, List.getElem_toArray, List.getElem_cons_zero, List.getElem_cons_succ, List.setIfInBounds_toArray, List.set_cons_zero, List.set_cons_succ]
        refine plan_done (NoPanic.normal ?_)
        go_wp2_with fail
        go_meet
        exact HX.out
      · skip
        refine plan_one rfl (by rfl) fun K hK => ?_
        go_simp
        have hb4 := hb2.alloc hb2.size (.cells (portA Port.zero none 0) 27)
        have hz : PortAt (x2.alloc (.cells (portA Port.zero none 0) 27)) x2.heap.size Port.zero none 0 := PortAt.new x2 Port.zero none 0
        have ho4 := World.ownsRow.alloc ho2 (.cells (portA Port.zero none 0) 27)
        refine hK.out _ _ (hC_5.below (hb4) hC_5.lt) ?_
        clear hK K
        try simp only [Act.put, List.getElem_toArray, List.getElem_cons_zero, List.getElem_cons_succ, List.setIfInBounds_toArray, List.set_cons_zero, List.set_cons_succ]
        refine plan_one rfl (by rfl) fun K hK => ?_
        go_simp
        go_at_call 11
        refine (HD1.out A1 c1 A2 c2 _ (Sl.below iC_5 hb4) (Sl.of_own ho4)).mono ?_
        rintro e x3 ⟨A3, c3, B3, d3, rfl, iV, jV, hbx3, hfA, hfB⟩
        have hb3 : Below W5.heap.size W5 x3 := below_go hb4 hbx3
        have hz3 := hz.below hbx3 hz.lt
        refine hK.out _ _ (hC_5.below (hb3) hC_5.lt) ?_
        clear hK K
        try simp only [Act.put, List.getElem_toArray, List.getElem_cons_zero, List.getElem_cons_succ, List.setIfInBounds_toArray, List.set_cons_zero, List.set_cons_succ]
        refine plan_take (v := ?_) rfl (by rfl) (fun w' hw' => ?_) ?_
        rotate_left
        · go_simp; try with_reducible rfl
        try simp only [Act.put, List.getElem_toArray, List.getElem_cons_zero, List.getElem_cons_succ, List.setIfInBounds_toArray, List.set_cons_zero, List.set_cons_succ]
        refine plan_take (v := ?_) rfl (by rfl) (fun w' hw' => ?_) ?_
        rotate_left
        · go_simp; try with_reducible rfl
        try simp only [Act.put, List.getElem_toArray, List.getElem_cons_zero, List.getElem_cons_succ, List.setIfInBounds_toArray, List.set_cons_zero, List.set_cons_succ]
        refine plan_take (v := ?_) rfl (by rfl) (fun w' hw' => ?_) ?_
        rotate_left
        · go_simp; try with_reducible rfl
        try simp only [Act.put, List.getElem_toArray, List.getElem_cons_zero, List.getElem_cons_succ, List.setIfInBounds_toArray, List.set_cons_zero, List.set_cons_succ]
        refine plan_one rfl (by rfl) fun K hK => ?_
        refine oper_store_port rfl (by first | rfl | simp [Act.eval, Act.put]) (by first | rfl | simp [Act.eval, Act.put]) hz3 ?_
        intro x5 h6 hr6
        have hb6 := hb3.trans (hr6.below (n := W5.heap.size) (by first | exact Nat.le_refl _ | exact hb2.size))
        have iV2 : InP x5 D A3 := sl_offT iV hr6 (hfA.mono hz.lt)
        have jV2 := sl_offT jV hr6 (hfB.mono hz.lt)
        have HX := Lib.hid (PDued.mk (D := D) (who := who) h6 iV2 jV2 hb6 (d := d3))
        refine hK.out _ _ (hC_5.below hb6 hC_5.lt) ?_
        clear hK K h6 hr6 iV jV iV2 jV2
        try simp only [Act.put, List.getElem_toArray, List.getElem_cons_zero, List.getElem_cons_succ, List.setIfInBounds_toArray, List.set_cons_zero, List.set_cons_succ]
        refine plan_take (v := ?_) rfl (by rfl) (fun w' hw' => ?_) ?_
        rotate_left
        · go_simp; try with_reducible rfl
        try simp only [Act.put, List.getElem_toArray, List.getElem_cons_zero, List.getElem_cons_succ, List.setIfInBounds_toArray, List.set_cons_zero, List.set_cons_succ]
        refine plan_done (NoPanic.normal ?_)
        go_wp2_with fail
        go_meet
        exact HX.out
    · skip
      refine plan_one rfl (by rfl) fun K hK => ?_
      go_simp
      have hb1 : Below W5.heap.size W5 (W5.alloc (.cells (portA Port.zero none 0) 27)).drew := ((Below.refl _ _).alloc (Nat.le_refl _) _).drew
      have hz : PortAt (W5.alloc (.cells (portA Port.zero none 0) 27)).drew W5.heap.size Port.zero none 0 := PortAt.new W5 Port.zero none 0
      refine hK.out _ _ (hC_5.below (hb1) hC_5.lt) ?_
      clear hK K
      try simp only [Act.put, List.getElem_toArray, List.getElem_cons_zero, List.getElem_cons_succ, List.setIfInBounds_toArray, List.set_cons_zero, List.set_cons_succ]
      refine plan_one rfl (by rfl) fun K hK => ?_
      refine oper_append_copy _ _ 30 rfl (W5.alloc (.cells (portA Port.zero none 0) 27)).drew.heap.size 3 i0 _ 1 8 Try.underlying30 hi0 hz0 hz1 hz2 rfl (by decide) (by first | rfl | simp [Act.eval, Act.put]) B plan.length d (plan.map (Value.int .i64)) (by first | rfl | simp [Act.eval, Act.put]) (Sl.below (Sl.below HSL.out hB_5) hb1) (int_cells1 _) HRP.out.1 HRP.out.2 (Nat.le_refl _) ?_
      intro v2 x2 ho2 hbx2
      obtain ⟨A2, c2, rfl⟩ := own_form ho2
      have hb2 : Below W5.heap.size W5 x2 := below_go hb1 hbx2
      have hz2' := hz.below hbx2 hz.lt
      refine hK.out _ _ (hC_5.below (hb2) hC_5.lt) ?_
      clear hK K
      try simp only [Act.put, List.getElem_toArray, List.getElem_cons_zero, List.getElem_cons_succ, List.setIfInBounds_toArray, List.set_cons_zero, List.set_cons_succ]
      refine plan_one rfl (by rfl) fun K hK => ?_
      go_simp
      go_at_call 11
      refine (HD1.out A1 c1 A2 c2 _ (Sl.below iC_5 hb2) (Sl.of_own ho2)).mono ?_
      rintro e x3 ⟨A3, c3, B3, d3, rfl, iV, jV, hbx3, hfA, hfB⟩
      have hb3 : Below W5.heap.size W5 x3 := below_go hb2 hbx3
      have hz3 := hz2'.below hbx3 hz2'.lt
      refine hK.out _ _ (hC_5.below (hb3) hC_5.lt) ?_
      clear hK K
      try simp only [Act.put, List.getElem_toArray, List.getElem_cons_zero, List.getElem_cons_succ, List.setIfInBounds_toArray, List.set_cons_zero, List.set_cons_succ]
      refine plan_take (v := ?_) rfl (by rfl) (fun w' hw' => ?_) ?_
      rotate_left
      · go_simp; try with_reducible rfl
      try simp only [Act.put, List.getElem_toArray, List.getElem_cons_zero, List.getElem_cons_succ, List.setIfInBounds_toArray, List.set_cons_zero, List.set_cons_succ]
      refine plan_take (v := ?_) rfl (by rfl) (fun w' hw' => ?_) ?_
      rotate_left
      · go_simp; try with_reducible rfl
      try simp only [Act.put, List.getElem_toArray, List.getElem_cons_zero, List.getElem_cons_succ, List.setIfInBounds_toArray, List.set_cons_zero, List.set_cons_succ]
      refine plan_take (v := ?_) rfl (by rfl) (fun w' hw' => ?_) ?_
      rotate_left
      · go_simp; try with_reducible rfl
      try simp only [Act.put, List.getElem_toArray, List.getElem_cons_zero, List.getElem_cons_succ, List.setIfInBounds_toArray, List.set_cons_zero, List.set_cons_succ]
      refine plan_one rfl (by rfl) fun K hK => ?_
      refine oper_store_port rfl (by first | rfl | simp [Act.eval, Act.put]) (by first | rfl | simp [Act.eval, Act.put]) hz3 ?_
      intro x5 h6 hr6
      have hb6 := hb3.trans (hr6.below (n := W5.heap.size) (by first | exact Nat.le_refl _ | exact hb2.size))
      have iV2 : InP x5 D A3 := sl_offT iV hr6 (hfA.mono (Nat.lt_of_lt_of_le hz.lt hbx2.size))
      have jV2 := sl_offT jV hr6 (hfB.mono (Nat.lt_of_lt_of_le hz.lt hbx2.size))
      have HX := Lib.hid (PDued.mk (D := D) (who := who) h6 iV2 jV2 hb6 (d := d3))
      refine hK.out _ _ (hC_5.below hb6 hC_5.lt) ?_
      clear hK K h6 hr6 iV jV iV2 jV2
      try simp only [Act.put, List.getElem_toArray, List.getElem_cons_zero, List.getElem_cons_succ, List.setIfInBounds_toArray, List.set_cons_zero, List.set_cons_succ]
      refine plan_take (v := ?_) rfl (by rfl) (fun w' hw' => ?_) ?_
      rotate_left
      · go_simp; try with_reducible rfl
      try simp only [Act.put, List.getElem_toArray, List.getElem_cons_zero, List.getElem_cons_succ, List.setIfInBounds_toArray, List.set_cons_zero, List.set_cons_succ]
      refine plan_done (NoPanic.normal ?_)
      go_wp2_with fail
      go_meet
      exact HX.out
  obtain ⟨gq, A3, c3, B3, d3, rfl, rfl, hN, iV, jV, hb⟩ := hcut
  obtain ⟨W6, rfl⟩ : ∃ W6 : World, W6 = wc := ⟨_, rfl⟩
  have hP_6 := hP_5.below hb hP_5.lt
  have hC_6 := hC_5.below hb hC_5.lt
  have hTa_6 := hTa_5.below hb hTa_5.lt
  have hTb_6 := hTb_5.below hb hTb_5.lt
  have hLa_6 := hLa_5.below hb hLa_5.lt
  have hLb_6 := hLb_5.below hb hLb_5.lt
  have iC_6 : InP W6 p A1 := Sl.below iC_5 hb
  have iTa_6 : InP W6 q Aa := Sl.below iTa_5 hb
  have iTb_6 : InP W6 q Ab := Sl.below iTb_5 hb
  have iLa_6 : InP W6 x Ax := Sl.below iLa_5 hb
  have iLb_6 : InP W6 x Ay := Sl.below iLb_5 hb
  have hO_6 := (hb.block (w.heap.size + 1) (Array.getElem?_eq_some_iff.1 hO_5).1).trans hO_5
  have hB_6 := below_go hB_5 hb
  clear hP_5 hC_5 hTa_5 hTb_5 hLa_5 hLb_5 iC_5 iTa_5 iTb_5 iLa_5 iLb_5 hO_5 hB_5
  have hQa_6 := hN
  have iQa_6 := iV
  have jQa_6 := jV
  clear hN iV jV hb
  as_aux_lemma =>
  go_upto_region 8 with (first
    | (refine wpList_load_port rfl rfl ?hx hP_6 ?_; (case hx => first | rfl | (simp [Act.eval, Act.put]; done)))
    | (go_at_call 24; refine (HD2.out A c B d _ (Sl.below HIN.out hB_6) (Sl.below HSL.out hB_6)).mono ?_; rintro e V6 ⟨A4, c4, B4, d4, rfl, iV, _, jV, hbV, _⟩; have hz := PortAt.new V6 Port.zero none 0)
    | (refine wpList_store_port rfl rfl (by first | rfl | simp [Act.eval, Act.put]) (by first | rfl | simp [Act.eval, Act.put]) hz ?_; intro W7 hN hr))
  have hbN : Below V6.heap.size V6 W7 := ((Below.refl _ _).alloc (Nat.le_refl _) _).trans (hr.below (Nat.le_refl _))
  have hb : Below W6.heap.size W6 W7 := hbV.trans (hbN.mono hbV.size)
  have iQb_7 : InP W7 D A4 := Sl.below iV hbN
  have jQb_7 := Sl.below jV hbN
  clear iV jV
  have hP_7 := hP_6.below hb hP_6.lt
  have hC_7 := hC_6.below hb hC_6.lt
  have hTa_7 := hTa_6.below hb hTa_6.lt
  have hTb_7 := hTb_6.below hb hTb_6.lt
  have hLa_7 := hLa_6.below hb hLa_6.lt
  have hLb_7 := hLb_6.below hb hLb_6.lt
  have hQa_7 := hQa_6.below hb hQa_6.lt
  have iC_7 : InP W7 p A1 := Sl.below iC_6 hb
  have iTa_7 : InP W7 q Aa := Sl.below iTa_6 hb
  have iTb_7 : InP W7 q Ab := Sl.below iTb_6 hb
  have iLa_7 : InP W7 x Ax := Sl.below iLa_6 hb
  have iLb_7 : InP W7 x Ay := Sl.below iLb_6 hb
  have iQa_7 : InP W7 D A3 := Sl.below iQa_6 hb
  have jQa_7 := Sl.below jQa_6 hb
  have hO_7 := (hb.block (w.heap.size + 1) (Array.getElem?_eq_some_iff.1 hO_6).1).trans hO_6
  have hB_7 := below_go hB_6 hb
  clear hP_6 hC_6 hTa_6 hTb_6 hLa_6 hLb_6 hQa_6 iC_6 iTa_6 iTb_6 iLa_6 iLb_6 iQa_6 jQa_6 hO_6 hB_6
  obtain ⟨gQb, hg⟩ : ∃ gQb, V6.heap.size = gQb := ⟨_, rfl⟩
  rw [hg] at hN
  try rw [hg]
  have hQb_7 := hN
  clear hN hr hz hbN hb hbV hg
  as_aux_lemma =>
  go_wp2_with (first
    | (refine wpList_load_port rfl rfl ?hx hTa_7 ?_; (case hx => first | rfl | (simp [Act.eval, Act.put]; done)))
    | (refine wpList_load_port rfl rfl ?hx hTb_7 ?_; (case hx => first | rfl | (simp [Act.eval, Act.put]; done))))
  refine (samePort_big q Aa Ab ca cb _ iTa_7 iTb_7 HTL.out).mono ?_
  rintro e W8 ⟨rfl, hb⟩
  have hP_8 := hP_7.below hb hP_7.lt
  have hC_8 := hC_7.below hb hC_7.lt
  have hTa_8 := hTa_7.below hb hTa_7.lt
  have hTb_8 := hTb_7.below hb hTb_7.lt
  have hLa_8 := hLa_7.below hb hLa_7.lt
  have hLb_8 := hLb_7.below hb hLb_7.lt
  have hQa_8 := hQa_7.below hb hQa_7.lt
  have hQb_8 := hQb_7.below hb hQb_7.lt
  have iC_8 : InP W8 p A1 := Sl.below iC_7 hb
  have iTa_8 : InP W8 q Aa := Sl.below iTa_7 hb
  have iTb_8 : InP W8 q Ab := Sl.below iTb_7 hb
  have iLa_8 : InP W8 x Ax := Sl.below iLa_7 hb
  have iLb_8 : InP W8 x Ay := Sl.below iLb_7 hb
  have iQa_8 : InP W8 D A3 := Sl.below iQa_7 hb
  have iQb_8 : InP W8 D A4 := Sl.below iQb_7 hb
  have jQa_8 := Sl.below jQa_7 hb
  have jQb_8 := Sl.below jQb_7 hb
  have hO_8 := (hb.block (w.heap.size + 1) (Array.getElem?_eq_some_iff.1 hO_7).1).trans hO_7
  have hB_8 := below_go hB_7 hb
  clear hP_7 hC_7 hTa_7 hTb_7 hLa_7 hLb_7 hQa_7 hQb_7 iC_7 iTa_7 iTb_7 iLa_7 iLb_7 iQa_7 iQb_7 jQa_7 jQb_7 hO_7 hB_7
  clear hb
  as_aux_lemma =>
  have ka0 := hLa_8.cell 0
  have ka1 := hLa_8.cell 1
  have ka2 := hLa_8.cell 2
  have ka3 := hLa_8.cell 3
  have ka4 := hLa_8.cell 4
  have ka5 := hLa_8.cell 5
  have ka6 := hLa_8.cell 6
  have ka7 := hLa_8.cell 7
  have ka8 := hLa_8.cell 8
  have ka9 := hLa_8.cell 9
  have ka10 := hLa_8.cell 10
  have ka11 := hLa_8.cell 11
  have ka12 := hLa_8.cell 12
  have ka13 := hLa_8.cell 13
  have ka14 := hLa_8.cell 14
  have ka15 := hLa_8.cell 15
  have kb0 := hLb_8.cell 0
  have kb1 := hLb_8.cell 1
  have kb2 := hLb_8.cell 2
  have kb3 := hLb_8.cell 3
  have kb4 := hLb_8.cell 4
  have kb5 := hLb_8.cell 5
  have kb6 := hLb_8.cell 6
  have kb7 := hLb_8.cell 7
  have kb8 := hLb_8.cell 8
  have kb9 := hLb_8.cell 9
  have kb10 := hLb_8.cell 10
  have kb11 := hLb_8.cell 11
  have kb12 := hLb_8.cell 12
  have kb13 := hLb_8.cell 13
  have kb14 := hLb_8.cell 14
  have kb15 := hLb_8.cell 15
  simp only [portA] at ka0 ka1 ka2 ka3 ka4 ka5 ka6 ka7 ka8 ka9 ka10 ka11 ka12 ka13 ka14 ka15 kb0 kb1 kb2 kb3 kb4 kb5 kb6 kb7 kb8 kb9 kb10 kb11 kb12 kb13 kb14 kb15
  go_wp2_with fail
  clear ka0 ka1 ka2 ka3 ka4 ka5 ka6 ka7 ka8 ka9 ka10 ka11 ka12 ka13 ka14 ka15 kb0 kb1 kb2 kb3 kb4 kb5 kb6 kb7 kb8 kb9 kb10 kb11 kb12 kb13 kb14 kb15
  refine (samePort_big x Ax Ay cx cy _ iLa_8 iLb_8 HLL.out).mono ?_
  rintro e W9 ⟨rfl, hb⟩
  have hP_9 := hP_8.below hb hP_8.lt
  have hC_9 := hC_8.below hb hC_8.lt
  have hTa_9 := hTa_8.below hb hTa_8.lt
  have hTb_9 := hTb_8.below hb hTb_8.lt
  have hLa_9 := hLa_8.below hb hLa_8.lt
  have hLb_9 := hLb_8.below hb hLb_8.lt
  have hQa_9 := hQa_8.below hb hQa_8.lt
  have hQb_9 := hQb_8.below hb hQb_8.lt
  have iC_9 : InP W9 p A1 := Sl.below iC_8 hb
  have iTa_9 : InP W9 q Aa := Sl.below iTa_8 hb
  have iTb_9 : InP W9 q Ab := Sl.below iTb_8 hb
  have iLa_9 : InP W9 x Ax := Sl.below iLa_8 hb
  have iLb_9 : InP W9 x Ay := Sl.below iLb_8 hb
  have iQa_9 : InP W9 D A3 := Sl.below iQa_8 hb
  have iQb_9 : InP W9 D A4 := Sl.below iQb_8 hb
  have jQa_9 := Sl.below jQa_8 hb
  have jQb_9 := Sl.below jQb_8 hb
  have hO_9 := (hb.block (w.heap.size + 1) (Array.getElem?_eq_some_iff.1 hO_8).1).trans hO_8
  have hB_9 := below_go hB_8 hb
  clear hP_8 hC_8 hTa_8 hTb_8 hLa_8 hLb_8 hQa_8 hQb_8 iC_8 iTa_8 iTb_8 iLa_8 iLb_8 iQa_8 iQb_8 jQa_8 jQb_8 hO_8 hB_8
  clear hb
  as_aux_lemma =>
  have ka0 := hQa_9.cell 0
  have ka1 := hQa_9.cell 1
  have ka2 := hQa_9.cell 2
  have ka3 := hQa_9.cell 3
  have ka4 := hQa_9.cell 4
  have ka5 := hQa_9.cell 5
  have ka6 := hQa_9.cell 6
  have ka7 := hQa_9.cell 7
  have ka8 := hQa_9.cell 8
  have ka9 := hQa_9.cell 9
  have ka10 := hQa_9.cell 10
  have ka11 := hQa_9.cell 11
  have ka12 := hQa_9.cell 12
  have ka13 := hQa_9.cell 13
  have ka14 := hQa_9.cell 14
  have ka15 := hQa_9.cell 15
  have kb0 := hQb_9.cell 0
  have kb1 := hQb_9.cell 1
  have kb2 := hQb_9.cell 2
  have kb3 := hQb_9.cell 3
  have kb4 := hQb_9.cell 4
  have kb5 := hQb_9.cell 5
  have kb6 := hQb_9.cell 6
  have kb7 := hQb_9.cell 7
  have kb8 := hQb_9.cell 8
  have kb9 := hQb_9.cell 9
  have kb10 := hQb_9.cell 10
  have kb11 := hQb_9.cell 11
  have kb12 := hQb_9.cell 12
  have kb13 := hQb_9.cell 13
  have kb14 := hQb_9.cell 14
  have kb15 := hQb_9.cell 15
  simp only [portA] at ka0 ka1 ka2 ka3 ka4 ka5 ka6 ka7 ka8 ka9 ka10 ka11 ka12 ka13 ka14 ka15 kb0 kb1 kb2 kb3 kb4 kb5 kb6 kb7 kb8 kb9 kb10 kb11 kb12 kb13 kb14 kb15
  go_wp2_with fail
  clear ka0 ka1 ka2 ka3 ka4 ka5 ka6 ka7 ka8 ka9 ka10 ka11 ka12 ka13 ka14 ka15 kb0 kb1 kb2 kb3 kb4 kb5 kb6 kb7 kb8 kb9 kb10 kb11 kb12 kb13 kb14 kb15
  refine (samePort_big D A3 A4 c3 c4 _ iQa_9 iQb_9 HDL.out).mono ?_
  rintro e W10 ⟨rfl, hb⟩
  have hP_10 := hP_9.below hb hP_9.lt
  have hC_10 := hC_9.below hb hC_9.lt
  have hTa_10 := hTa_9.below hb hTa_9.lt
  have hTb_10 := hTb_9.below hb hTb_9.lt
  have hLa_10 := hLa_9.below hb hLa_9.lt
  have hLb_10 := hLb_9.below hb hLb_9.lt
  have hQa_10 := hQa_9.below hb hQa_9.lt
  have hQb_10 := hQb_9.below hb hQb_9.lt
  have iC_10 : InP W10 p A1 := Sl.below iC_9 hb
  have iTa_10 : InP W10 q Aa := Sl.below iTa_9 hb
  have iTb_10 : InP W10 q Ab := Sl.below iTb_9 hb
  have iLa_10 : InP W10 x Ax := Sl.below iLa_9 hb
  have iLb_10 : InP W10 x Ay := Sl.below iLb_9 hb
  have iQa_10 : InP W10 D A3 := Sl.below iQa_9 hb
  have iQb_10 : InP W10 D A4 := Sl.below iQb_9 hb
  have jQa_10 := Sl.below jQa_9 hb
  have jQb_10 := Sl.below jQb_9 hb
  have hO_10 := (hb.block (w.heap.size + 1) (Array.getElem?_eq_some_iff.1 hO_9).1).trans hO_9
  have hB_10 := below_go hB_9 hb
  clear hP_9 hC_9 hTa_9 hTb_9 hLa_9 hLb_9 hQa_9 hQb_9 iC_9 iTa_9 iTb_9 iLa_9 iLb_9 iQa_9 iQb_9 jQa_9 jQb_9 hO_9 hB_9
  clear hb
  go_wp2_with fail
  as_aux_lemma =>
  have hJ := sameInts_big (natsI who) (natsI who) B3 B4 d3 d4 W10 (by rw [natsI_len]; exact jQa_10) (by rw [natsI_len]; exact jQb_10) HWL.out HWL.out
  rw [natsI_len] at hJ
  refine hJ.mono ?_
  rintro e W11 ⟨rfl, hb⟩
  rw [show decide (natsI who = natsI who) = true by simp]
  clear hJ
  have hP_11 := hP_10.below hb hP_10.lt
  have hC_11 := hC_10.below hb hC_10.lt
  have hTa_11 := hTa_10.below hb hTa_10.lt
  have hTb_11 := hTb_10.below hb hTb_10.lt
  have hLa_11 := hLa_10.below hb hLa_10.lt
  have hLb_11 := hLb_10.below hb hLb_10.lt
  have hQa_11 := hQa_10.below hb hQa_10.lt
  have hQb_11 := hQb_10.below hb hQb_10.lt
  have iC_11 : InP W11 p A1 := Sl.below iC_10 hb
  have iTa_11 : InP W11 q Aa := Sl.below iTa_10 hb
  have iTb_11 : InP W11 q Ab := Sl.below iTb_10 hb
  have iLa_11 : InP W11 x Ax := Sl.below iLa_10 hb
  have iLb_11 : InP W11 x Ay := Sl.below iLb_10 hb
  have iQa_11 : InP W11 D A3 := Sl.below iQa_10 hb
  have iQb_11 : InP W11 D A4 := Sl.below iQb_10 hb
  have jQa_11 := Sl.below jQa_10 hb
  have jQb_11 := Sl.below jQb_10 hb
  have hO_11 := (hb.block (w.heap.size + 1) (Array.getElem?_eq_some_iff.1 hO_10).1).trans hO_10
  have hB_11 := below_go hB_10 hb
  clear hP_10 hC_10 hTa_10 hTb_10 hLa_10 hLb_10 hQa_10 hQb_10 iC_10 iTa_10 iTb_10 iLa_10 iLb_10 iQa_10 iQb_10 jQa_10 jQb_10 hO_10 hB_10
  clear hb
  as_aux_lemma =>
  have ka0 := hC_11.cell 0
  have ka1 := hC_11.cell 1
  have ka2 := hC_11.cell 2
  have ka3 := hC_11.cell 3
  have ka4 := hC_11.cell 4
  have ka5 := hC_11.cell 5
  have ka6 := hC_11.cell 6
  have ka7 := hC_11.cell 7
  have ka8 := hC_11.cell 8
  have ka9 := hC_11.cell 9
  have ka10 := hC_11.cell 10
  have ka11 := hC_11.cell 11
  have ka12 := hC_11.cell 12
  have ka13 := hC_11.cell 13
  have ka14 := hC_11.cell 14
  have ka15 := hC_11.cell 15
  have kb0 := hP_11.cell 0
  have kb1 := hP_11.cell 1
  have kb2 := hP_11.cell 2
  have kb3 := hP_11.cell 3
  have kb4 := hP_11.cell 4
  have kb5 := hP_11.cell 5
  have kb6 := hP_11.cell 6
  have kb7 := hP_11.cell 7
  have kb8 := hP_11.cell 8
  have kb9 := hP_11.cell 9
  have kb10 := hP_11.cell 10
  have kb11 := hP_11.cell 11
  have kb12 := hP_11.cell 12
  have kb13 := hP_11.cell 13
  have kb14 := hP_11.cell 14
  have kb15 := hP_11.cell 15
  simp only [portA] at ka0 ka1 ka2 ka3 ka4 ka5 ka6 ka7 ka8 ka9 ka10 ka11 ka12 ka13 ka14 ka15 kb0 kb1 kb2 kb3 kb4 kb5 kb6 kb7 kb8 kb9 kb10 kb11 kb12 kb13 kb14 kb15
  go_wp2_with fail
  clear ka0 ka1 ka2 ka3 ka4 ka5 ka6 ka7 ka8 ka9 ka10 ka11 ka12 ka13 ka14 ka15 kb0 kb1 kb2 kb3 kb4 kb5 kb6 kb7 kb8 kb9 kb10 kb11 kb12 kb13 kb14 kb15
  refine (samePort_big p A1 A c1 c _ iC_11 (Sl.below HIN.out hB_11) HPL.out).mono ?_
  rintro e W12 ⟨rfl, hb⟩
  have hP_12 := hP_11.below hb hP_11.lt
  have hC_12 := hC_11.below hb hC_11.lt
  have hTa_12 := hTa_11.below hb hTa_11.lt
  have hTb_12 := hTb_11.below hb hTb_11.lt
  have hLa_12 := hLa_11.below hb hLa_11.lt
  have hLb_12 := hLb_11.below hb hLb_11.lt
  have hQa_12 := hQa_11.below hb hQa_11.lt
  have hQb_12 := hQb_11.below hb hQb_11.lt
  have iC_12 : InP W12 p A1 := Sl.below iC_11 hb
  have iTa_12 : InP W12 q Aa := Sl.below iTa_11 hb
  have iTb_12 : InP W12 q Ab := Sl.below iTb_11 hb
  have iLa_12 : InP W12 x Ax := Sl.below iLa_11 hb
  have iLb_12 : InP W12 x Ay := Sl.below iLb_11 hb
  have iQa_12 : InP W12 D A3 := Sl.below iQa_11 hb
  have iQb_12 : InP W12 D A4 := Sl.below iQb_11 hb
  have jQa_12 := Sl.below jQa_11 hb
  have jQb_12 := Sl.below jQb_11 hb
  have hO_12 := (hb.block (w.heap.size + 1) (Array.getElem?_eq_some_iff.1 hO_11).1).trans hO_11
  have hB_12 := below_go hB_11 hb
  clear hP_11 hC_11 hTa_11 hTb_11 hLa_11 hLb_11 hQa_11 hQb_11 iC_11 iTa_11 iTb_11 iLa_11 iLb_11 iQa_11 iQb_11 jQa_11 jQb_11 hO_11 hB_11
  clear hb
  go_wp2_with fail
  refine (HPO.out _).mono ?_
  rintro e W13 ⟨rfl, hb⟩
  have hB := below_go hB_12 hb
  go_wp2_with fail
  go_ret
  exact ⟨rfl, hB⟩
end Go.Proofs.Ytifmdkcpbajdcab

/- Walks: who is due comes in. -/
import Derived.Test.YtifmdkcpbajdcabLaterW
namespace Go.Proofs.Ytifmdkcpbajdcab
open Go.RowKit Go.Proofs Plain

def RetDue (p : Port) (plan : List Int) (w : World) (e : Ending) (w' : World) : Prop :=
  ∃ A c B d, e = .returned (.tuple #[.agg (portA (dueL p plan) A c), .slice B (whoL p plan).length d]) ∧ InP w' (dueL p plan) A ∧ Sl w' 1 B (whoL p plan).length ((natsI (whoL p plan)).map (Value.int .i64)) ∧ Below w.heap.size w w'

theorem own_grow {w w' : World} {base size n : Nat} {T : TypeId} {v : Value} {xs : List Value} {row : Option Nat} (h : w.ownsRow base T size v n xs) (hg : w.grownBy w' row) (hne : ∀ x, v.ownBlock = some x → some x ≠ row) : w'.ownsRow base T size v n xs := by
  refine ⟨h.1, ?_⟩
  rcases h.2 with hn | ⟨b, cap, cur, hv, hb, hh, rest⟩
  · exact .inl hn
  · exact .inr ⟨b, cap, cur, hv, hb, (hg.block b (Array.getElem?_eq_some_iff.1 hh).1 (hne b (by rw [hv]; rfl))).trans hh, rest⟩

set_option maxRecDepth 100000 in
set_option maxHeartbeats 16000000 in
theorem due_walk (p : Port) (A : Option Addr) (c : Nat) (plan : List Int) (B : Option Addr) (d : Nat) (w : World) (hg : PWf p) (hlen : p.ships.length ≤ 100000) (hin : InP w p A)
    (hpl : plan.length ≤ 100000) (hsl : Sl w 1 B plan.length (plan.map (Value.int .i64))) :
    Calls Try.prog 11 #[.agg (portA p A c), .slice B plan.length d] w (RetDue p plan w) := by
  have hn2 := hg.now
  have HGD := Lib.hid hg
  have HLS := Lib.hid (due_ships2 p plan)
  have HWA := Lib.hid (who_all p plan)
  clear hg
  simp only [portA]
  go_enter Try.func11, Try.ntmps11
  have hP0 : PortAt ((w.alloc (.cells (portA p A c) 27)).alloc (.cells (portA Port.zero none 0) 27)) w.heap.size p A c := (PortAt.new w p A c).alloc _
  have hZ0 : PortAt ((w.alloc (.cells (portA p A c) 27)).alloc (.cells (portA Port.zero none 0) 27)) (w.heap.size + 1) Port.zero none 0 := by
    have := PortAt.new (w.alloc (.cells (portA p A c) 27)) Port.zero none 0
    simpa using this
  have hB0 : Below w.heap.size w ((w.alloc (.cells (portA p A c) 27)).alloc (.cells (portA Port.zero none 0) 27)) := ((Below.refl _ _).alloc (Nat.le_refl _) _).alloc (by simp) _
  have hs0 : ((w.alloc (.cells (portA p A c) 27)).alloc (.cells (portA Port.zero none 0) 27)).heap.size = w.heap.size + 2 := by simp
  simp only [portA, Port.zero, Port.keep, Kept.zero, List.getD_cons_zero, List.getD_cons_succ, List.length_nil] at hP0 hZ0 hB0 hs0
  go_wp2_with (refine wpList_load_port rfl rfl (by first | rfl | simp [Act.eval, Act.put]) hP0 ?_)
  refine (ownP_any p A c _ (Sl.below hin hB0) hlen).mono ?_
  rintro e w2 ⟨A2, c2, rfl, ho2, hb2⟩
  have hs2 := hb2.size
  rw [hs0] at hs2 ho2
  have hP2 := PortAt.below (p := p) (A := A) (c := c) hP0 hb2 (by rw [hs0]; omega)
  have hZ2 := PortAt.below (p := Port.zero) (A := none) (c := 0) hZ0 hb2 (by rw [hs0]; omega)
  have hB2 := below_go hB0 hb2
  clear hP0 hZ0 hB0 hb2 hs0
  go_wp2_with (refine wpList_store_port (p := p) (A := A) (c := c) (q := p) (B := A2) (d := c2) rfl rfl (by first | rfl | simp [Act.eval, Act.put]) (by first | rfl | simp [Act.eval, Act.put]) hP2 ?_; intro w3 hP3 hr3)
  have hZ3 := hZ2.one hr3 (by omega)
  have hB3 := hB2.trans (hr3.below (n := w.heap.size) (Nat.le_refl _))
  have ho3 : OwnK w3 (w.heap.size + 2) (.slice A2 p.ships.length c2) p.ships := own_one ho2 hr3 (by omega)
  clear hP2 hZ2 hB2 ho2
  have hz0 := step_zero (dueF p plan) p.ships
  have hsz3 := hr3.size
  clear hr3
  have hbl3 : ∀ x, (Value.slice A2 p.ships.length c2).ownBlock = some x → x < w3.heap.size := fun x hx => by
    rcases ho3.2 with ⟨hv, _⟩ | ⟨gg, cap, cur, hv, _, hh, _⟩
    · rw [hv] at hx; cases hx
    · rw [hv] at hx; simp only [Value.ownBlock, Option.some.injEq] at hx
      have := (Array.getElem?_eq_some_iff.1 hh).1
      omega
  have hw3 : w.heap.size + 2 ≤ w3.heap.size := by omega
  go_loopw [13, 6] (fun i v wr => ∃ k : Nat, k ≤ plan.length ∧ i = .int .i64 k ∧ OwnK wr (w.heap.size + 2) (.slice A2 p.ships.length c2) (stepTo (dueF p plan) p.ships k) ∧ OwnI wr w3.heap.size v (natsI (whoTo p plan k)) ∧ PortAt wr w.heap.size p A2 c2 ∧ PortAt wr (w.heap.size + 1) Port.zero none 0 ∧ Below w.heap.size w wr ∧ w3.heap.size ≤ wr.heap.size) (fun i _ _ => plan.length - (intOf i).toNat)
  case atStart => exact ⟨0, Nat.zero_le _, rfl, by rw [hz0]; exact ho3, OwnI.nil _ _, hP3, hZ3, hB3, Nat.le_refl _⟩
  case round =>
    clear hP3 hZ3 hB3 ho3 hz0 hsz3
    obtain ⟨k, hk, rfl, ho, hown, hP, hZ, hB, hsz⟩ := hrel
    have q0 := hP.now
    have q1 := hP.ships
    have hll := step_len (dueF p plan) p.ships k
    have hwl := who_len p plan k
    have hnl := natsI_len (whoTo p plan k)
    by_cases hlt : k < plan.length
    · obtain ⟨b3, off3, hA3, hbl, hc3⟩ := ints_at (l := plan) (Sl.below hsl hB) (by omega)
      subst hA3
      have e3 := hc3 k hlt
      clear hc3
      have hd : plan.getD k 0 = plan.getD k (-1) := by
        rw [List.getD_eq_getElem?_getD, List.getD_eq_getElem?_getD, List.getElem?_eq_getElem hlt]; rfl
      rw [hd] at e3
      have HD := Lib.hid (show isDue p plan k = (decide (k < plan.length) && decide (plan.getD k (-1) = p.now) && decide ((p.ship k).state = 1)) from rfl)
      have HWY := Lib.hid (fun h => @who_yes p plan k h)
      have HWN := Lib.hid (@who_no p plan k)
      have HSM := Lib.hid (fun e => step_same (dueF p plan) p.ships k e)
      have HF := Lib.hid (show dueF p plan k (p.ship k) = if isDue p plan k = true then { p.ship k with state := 3, since := p.now } else p.ship k from rfl)
      clear hd
      generalize plan.getD k (-1) = t at *
      by_cases hkn : k < p.ships.length
      · have HNX := Lib.hid (step_next (dueF p plan) p.ships k hkn)
        have hgk := step_get (dueF p plan) p.ships k k hkn
        rw [if_neg (Nat.lt_irrefl k)] at hgk
        change (stepTo (dueF p plan) p.ships k).getD k Ship.zero = p.ship k at hgk
        generalize stepTo (dueF p plan) p.ships k = L at *
        have ho' : OwnK wr (w.heap.size + 2) (.slice A2 L.length c2) L := by rw [hll]; exact ho
        have hP' : PortAt wr w.heap.size { p with ships := L } A2 c2 := by
          unfold PortAt; rw [portA_ships p L A2 c2 hll]; exact hP
        have hog' : (Value.slice A2 L.length c2).ownBlock ≠ some w.heap.size := fun e => by have := own_block ho' _ e; omega
        obtain ⟨b, hA2, _, _⟩ := ownK_at ho' (by rw [hll]; omega)
        obtain ⟨_, F⟩ := found (p := { p with ships := L }) hP' ho' hog' (by show k < L.length; rw [hll]; exact hkn) hA2
        subst hA2
        have hbb : b < w3.heap.size := hbl3 b rfl
        have hpk : ({ p with ships := L } : Port).ship k = p.ship k := hgk
        have e0 := F.cells 0 (by omega)
        have e4 := F.cells 4 (by omega)
        rw [hpk] at e0 e4
        rw [Nat.add_zero] at e0
        have i0 := F.ice (k * 6)
        have i4 := F.ice (k * 6 + 4)
        have hFb := F.base
        have hne := F.ne
        clear F hpk hog' hP'
        have hp0 : p.ships.getD k Ship.zero = p.ship k := rfl
        rw [hp0] at HNX HSM
        clear hp0
        generalize p.ship k = x at *
        obtain ⟨st, wd, lg, cl, si, qu⟩ := x
        simp only [shipV] at e0 e4
        change wr.cell? _ = some (.int .i64 st) at e0
        change wr.cell? _ = some (.int .i64 si) at e4
        dsimp only at HD HF
        by_cases ht : t = p.now
        · have dt : (t == p.now) = true := by simpa using ht
          by_cases h1 : st = 1
          · have d1 : (st == 1) = true := by simpa using h1
            have hdue : isDue p plan k = true := by rw [HD.out, decide_eq_true hlt, decide_eq_true ht, decide_eq_true h1]; rfl
            have HE := Lib.hid (show L.set k ⟨3, wd, lg, cl, p.now, qu⟩ = stepTo (dueF p plan) p.ships (k + 1) by rw [← HNX.out, HF.out, if_pos hdue])
            have HW := Lib.hid (HWY.out hkn hdue)
            clear HNX HSM HF HWY HWN HD hdue
            go_wp2_with fail
            go_region
            have hog2 := own_gone (w := wr) (x := 3) (y := p.now) ho' (show k < L.length by rw [hll]; exact hkn)
            rw [hgk] at hog2
            dsimp only at hog2
            rw [HE.out] at hog2
            have hll2 := step_len (dueF p plan) p.ships (k + 1)
            rw [hll2] at hog2
            have hP5 := ((hP.beside ⟨b, k * 6, none⟩ (.int .i64 3) (by simpa using hne)).beside ⟨b, k * 6 + 4, none⟩ (.int .i64 p.now) (by simpa using hne))
            have hZ5 := ((hZ.beside ⟨b, k * 6, none⟩ (.int .i64 3) (by simp; omega)).beside ⟨b, k * 6 + 4, none⟩ (.int .i64 p.now) (by simp; omega))
            have hB5 := ((hB.setCell (p := ⟨b, k * 6, none⟩) (by simp; omega) (.int .i64 3)).setCell (p := ⟨b, k * 6 + 4, none⟩) (by simp; omega) (.int .i64 p.now)).drew
            have h5a := own_one (own_one hown (OneRow.of_cell wr ⟨b, k * 6, none⟩ (.int .i64 3)) hbb) (OneRow.of_cell (wr.setCell ⟨b, k * 6, none⟩ (.int .i64 3)) ⟨b, k * 6 + 4, none⟩ (.int .i64 p.now)) hbb
            have hown5 : OwnI ((wr.setCell ⟨b, k * 6, none⟩ (.int .i64 3)).setCell ⟨b, k * 6 + 4, none⟩ (.int .i64 p.now)).drew w3.heap.size _ (natsI (whoTo p plan k)) := h5a
            clear h5a
            have hO5 : OwnK ((wr.setCell ⟨b, k * 6, none⟩ (.int .i64 3)).setCell ⟨b, k * 6 + 4, none⟩ (.int .i64 p.now)).drew (w.heap.size + 2) (.slice (some ⟨b, 0, none⟩) p.ships.length c2) (stepTo (dueF p plan) p.ships (k + 1)) := hog2
            have hP5' : PortAt ((wr.setCell ⟨b, k * 6, none⟩ (.int .i64 3)).setCell ⟨b, k * 6 + 4, none⟩ (.int .i64 p.now)).drew w.heap.size p (some ⟨b, 0, none⟩) c2 := hP5
            have hZ5' : PortAt ((wr.setCell ⟨b, k * 6, none⟩ (.int .i64 3)).setCell ⟨b, k * 6 + 4, none⟩ (.int .i64 p.now)).drew (w.heap.size + 1) Port.zero none 0 := hZ5
            have hs5 : ((wr.setCell ⟨b, k * 6, none⟩ (.int .i64 3)).setCell ⟨b, k * 6 + 4, none⟩ (.int .i64 p.now)).drew.heap.size = wr.heap.size := by simp [World.setCell]
            generalize ((wr.setCell ⟨b, k * 6, none⟩ (.int .i64 3)).setCell ⟨b, k * 6 + 4, none⟩ (.int .i64 p.now)).drew = w5 at *
            have hs6 : w3.heap.size ≤ w5.heap.size := by omega
            clear hs5
            have ho6 := hown5.alloc (.cells #[.int .i64 k] 3)
            have hh := heap_alloc_new w5 (.cells #[.int .i64 k] 3)
            clear hP hZ hB hog2 hP5 hZ5 e0 e4 i0 i4 q0 q1
            go_wp2_with (at_builtin; refine wpList_append_int rfl _ _ rfl w3.heap.size _ _ rfl ho6 w5.heap.size 1 k rfl hh (by rw [hnl]; omega) (by simp; omega) ?_; intro v' w' ho7 hg')
            go_roundw
            case rel =>
              refine ⟨k + 1, by omega, by go_num, own_grow (hO5.alloc _) hg' (fun x hx e => ?_), by rw [HW.out, natsI_snoc]; exact ho7, ?_, ?_, grown_below (hB5.alloc hB5.size _) hg' ho6 (by omega) (by simp; have := hB5.size; omega), Nat.le_trans (by simp; omega) hg'.size⟩
              · simp only [Value.ownBlock, Option.some.injEq] at hx
                have := own_block ho6 _ e.symm
                omega
              · exact (hg'.block _ (by have := hP5'.lt; simp; omega) (fun e => by have := own_block ho6 _ e.symm; omega)).trans (hP5'.alloc _)
              · exact (hg'.block _ (by have := hZ5'.lt; simp; omega) (fun e => by have := own_block ho6 _ e.symm; omega)).trans (hZ5'.alloc _)
            case measure => simp [intOf] <;> omega
          · have d1 : (st == 1) = false := by simpa using h1
            have hdue : isDue p plan k = false := by rw [HD.out, decide_eq_false h1]; simp
            have HE := Lib.hid (show stepTo (dueF p plan) p.ships (k + 1) = L from HSM.out (fun _ => by rw [HF.out, hdue]; rfl))
            have HW := Lib.hid (HWN.out (fun h => by rw [hdue] at h; cases h.2))
            clear HNX HSM HF HWY HWN HD hdue
            go_wp2_with fail
            go_roundw
            case rel => exact ⟨k + 1, by omega, by go_num, by rw [HE.out]; exact ho, by rw [HW.out]; exact hown, hP, hZ, hB, hsz⟩
            case measure => simp [intOf] <;> omega
        · have dt : (t == p.now) = false := by simpa using ht
          have hdue : isDue p plan k = false := by rw [HD.out, decide_eq_false ht]; simp
          have HE := Lib.hid (show stepTo (dueF p plan) p.ships (k + 1) = L from HSM.out (fun _ => by rw [HF.out, hdue]; rfl))
          have HW := Lib.hid (HWN.out (fun h => by rw [hdue] at h; cases h.2))
          clear HNX HSM HF HWY HWN HD hdue
          go_wp2_with fail
          go_roundw
          case rel => exact ⟨k + 1, by omega, by go_num, by rw [HE.out]; exact ho, by rw [HW.out]; exact hown, hP, hZ, hB, hsz⟩
          case measure => simp [intOf] <;> omega
      · have dk : decide ((k : Int) < (p.ships.length : Int)) = false := by simp; omega
        have HE := Lib.hid (show stepTo (dueF p plan) p.ships (k + 1) = stepTo (dueF p plan) p.ships k from HSM.out (fun h => absurd h hkn))
        have HW := Lib.hid (HWN.out (fun h => hkn h.1))
        clear HSM HF HWY HWN HD
        go_wp2_with fail
        go_roundw
        case rel => exact ⟨k + 1, by omega, by go_num, by rw [HE.out]; exact ho, by rw [HW.out]; exact hown, hP, hZ, hB, hsz⟩
        case measure => simp [intOf] <;> omega
    · obtain rfl : k = plan.length := by omega
      obtain ⟨B5, d5, hv⟩ := own_form hown
      subst hv
      have hwa := HWA.out
      rw [hwa] at hown hnl
      rw [hwa, hnl]
      go_wp2_with (first
        | (refine wpList_load_port (p := p) (A := A2) (c := c2) rfl rfl (by first | rfl | simp [Act.eval, Act.put]) hP ?_)
        | (refine wpList_store_port rfl rfl (by first | rfl | simp [Act.eval, Act.put]) (by first | rfl | simp [Act.eval, Act.put]) hZ ?_; intro w4 hZ4 hr4))
      refine bodyPost_ret (results_port2 rfl _ _ (w.heap.size + 1) rfl hZ4) rfl ?_
      have ho5 := own_one ho hr4 (by omega)
      have hown4 := own_one hown hr4 (by omega)
      have hB6 := hB.trans (hr4.below (n := w.heap.size) (by omega))
      rw [← HLS.out] at ho5
      have hl5 : (dueL p plan).ships.length = p.ships.length := by rw [HLS.out, step_len]
      refine ⟨A2, c2, B5, d5, ?_, ?_, ?_, hB6⟩
      · have e : portA (dueL p plan) A2 c2 = portA p A2 c2 := portA_ships p (dueL p plan).ships A2 c2 hl5
        rw [e]; rfl
      · unfold InP
        have := Sl.of_own (w := w4) (base := w.heap.size + 2) (e := 38) (size := 6) (A := A2) (n := (dueL p plan).ships.length) (c := c2) (by rw [hl5]; rw [hl5] at ho5; exact ho5)
        exact this
      · have := Sl.of_own hown4
        rw [hnl] at this
        exact this
end Go.Proofs.Ytifmdkcpbajdcab

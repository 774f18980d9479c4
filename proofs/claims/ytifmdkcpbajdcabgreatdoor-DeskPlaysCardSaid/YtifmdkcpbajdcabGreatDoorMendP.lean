/- Walks: a plan that is mended. -/
import Derived.Test.YtifmdkcpbajdcabGreatDoorMendQ
set_option linter.unusedVariables false
set_option linter.unusedSimpArgs false
namespace Go.Proofs.YtifmdkcpbajdcabGreatDoor
open Go.RowKit Go.Proofs Plain
open Go.Act renaming put -> aP, eval -> aE
open Go.Lib renaming hid -> hd_
def RetMend (r : List Int × Int) (w : World) (e : Ending) (w' : World) : Prop :=
  ∃ A c, e = .returned (.tuple #[.slice A r.1.length c, .int .i64 r.2]) /\ Sl w' 1 A r.1.length (r.1.map (Value.int .i64)) /\ Below w.heap.size w w' /\ Fr w.heap.size A
theorem ret_mend {A : Option Addr} {n c : Nat} {l : List Int} {x : Int} {r : List Int × Int} (h : (l, x) = r) (hl : l.length = n) :
    Ending.returned (.tuple #[.slice A n c, .int .i64 x]) = .returned (.tuple #[.slice A r.1.length c, .int .i64 r.2]) := by subst h; subst hl; rfl
set_option maxRecDepth 100000 in
set_option maxHeartbeats 40000000 in
theorem mend_walk (was now : Port) (A1 A2 : Option Addr) (c1 c2 : Nat) (plan : List Int) (Ap : Option Addr) (cp : Nat) (w : World) (hwas : PGood was) (hnow : PGood now) (hp : IsPlan was plan)
    (hin1 : InP w was A1) (hin2 : InP w now A2) (hpl : Sl w 1 Ap plan.length (plan.map (Value.int .i64))) (hrk : ∀ w', InP w' now A2 -> RanksAt w' now A2 c2) :
    Calls Tryz.prog 52 #[.agg (portA was A1 c1), .agg (portA now A2 c2), .slice Ap plan.length cp] w (RetMend (mendL was now plan (rankL now)) w) := by
  have hn := hnow.now
  have hlen := hnow.len
  have hlenw := hwas.len
  have hlenp := hp.len
  have HW := hd_ hwas
  have HN := hd_ hnow
  have HP := hd_ hp
  have HRK := hd_ hrk
  have HB1 := hd_ ((base_good hnow.toFair).1.2 hnow.room)
  have HB2 := hd_ ((base_good hwas.toFair).1.2 hwas.room)
  have HF0 := hd_ (fill_zero now.ships.length)
  have HLP := hd_ hlenp
  clear hwas hnow hp hrk hlenp
  simp only [portA]
  go_enter Tryz.func52, Tryz.ntmps52
  go_wp2_with (refine wpList_make_ints (n := now.ships.length) rfl rfl rfl rfl (by omega) ?_)
  have hP0 : PortAt (w.alloc (.cells (portA was A1 c1) 36)) w.heap.size was A1 c1 := PortAt.new w was A1 c1
  have hQ0 : PortAt ((w.alloc (.cells (portA was A1 c1) 36)).alloc (.cells (portA now A2 c2) 36)) (w.heap.size + 1) now A2 c2 := by
    have := PortAt.new (w.alloc (.cells (portA was A1 c1) 36)) now A2 c2
    simpa using this
  have hI0 : Ints (((w.alloc (.cells (portA was A1 c1) 36)).alloc (.cells (portA now A2 c2) 36)).alloc (.cells (arr (List.replicate now.ships.length 0)) 3)) (w.heap.size + 2) (List.replicate now.ships.length 0) := by
    have := Ints.new ((w.alloc (.cells (portA was A1 c1) 36)).alloc (.cells (portA now A2 c2) 36)) (List.replicate now.ships.length 0)
    simpa using this
  have hB0 : Below w.heap.size w (((w.alloc (.cells (portA was A1 c1) 36)).alloc (.cells (portA now A2 c2) 36)).alloc (.cells (arr (List.replicate now.ships.length 0)) 3)) := (((Below.refl _ _).alloc (Nat.le_refl _) _).alloc (by simp) _).alloc (by simp; omega) _
  have hP1 := (hP0.alloc (.cells (portA now A2 c2) 36)).alloc (.cells (arr (List.replicate now.ships.length 0)) 3)
  have hQ1 := hQ0.alloc (.cells (arr (List.replicate now.ships.length 0)) 3)
  rw [<- HF0.out] at hI0
  simp only [portA] at hP1 hQ1 hB0 hI0
  clear hP0 hQ0
  go_loopw [33] (fun i wr => ∃ k : Nat, k <= now.ships.length /\ i = .int .i64 k /\ Ints wr (w.heap.size + 2) (fillL now.ships.length k) /\ PortAt wr w.heap.size was A1 c1 /\ PortAt wr (w.heap.size + 1) now A2 c2 /\ Below w.heap.size w wr) (fun i _ => now.ships.length - (intOf i).toNat)
  case atStart => exact ⟨0, Nat.zero_le _, rfl, by rw [HF0.out] at hI0 ⊢; exact hI0, hP1, hQ1, hB0⟩
  case round =>
    clear hI0 hP1 hQ1 hB0
    obtain ⟨k, hk, rfl, hI, hP, hQ, hB⟩ := hrel
    by_cases hlt : k < now.ships.length
    · have hilt := hI.lt
      have hc := hI.cell k (by rw [fill_len hk]; exact hlt)
      have hf := hI.frozen k
      have HNX := hd_ (fill_next hlt)
      go_wp2_with fail
      go_roundw
      case rel => exact ⟨k + 1, by omega, by go_num, by have := hI.set k (-1); rw [HNX.out] at this; exact this, by unfold PortAt; exact (Below.heap_setCell wr _ _ _ (by simp; try omega)).trans hP, by unfold PortAt; exact (Below.heap_setCell wr _ _ _ (by simp; try omega)).trans hQ, hB.setCell (by simp; try omega) _⟩
      case measure => simp [intOf] <;> omega
    · obtain rfl : k = now.ships.length := by omega
      rw [fill_all] at hI
      have HD1 := hd_ (fun e : was.now = now.now => show dirt0 was now = diff (baseL was).1 (baseL now).1 [] by unfold dirt0; rw [if_pos ⟨HB2.out, e⟩])
      have HD2 := hd_ (fun e : ¬ was.now = now.now => show dirt0 was now = addD [] 0 300 by unfold dirt0; rw [if_neg (fun h => e h.2)])
      have hg1 := ((base_good HN.out.toFair).2 HB1.out).1
      have hg2 := ((base_good HW.out.toFair).2 HB2.out).1
      have hl1 := good_len hg1
      have hl2 := good_len hg2
      clear hg1 hg2
      go_upto_if 60 with (first
        | (refine wLP rfl rfl (by first | rfl | simp [aE, aP]) hQ ?_)
        | (go_at_call_of 56 (portA now A2 c2); refine (base_fr now A2 c2 _ HN.out.toFair (Sl.below hin2 hB)).mono ?_; rintro e w2 ⟨A4, c4, rfl, h2, hb2, hr2⟩; rw [HB1.out]; have hP2 := hP.below hb2 hP.lt; have hQ2 := hQ.below hb2 hQ.lt; have hI2 := hI.below hb2 hI.lt; have hB2 := bG_ hB hb2)
        | (refine wLP rfl rfl (by first | rfl | simp [aE, aP]) hP2 ?_)
        | (go_at_call_of 56 (portA was A1 c1); refine (base_fr was A1 c1 _ HW.out.toFair (Sl.below hin1 hB2)).mono ?_; rintro e w3 ⟨A5, c5, rfl, h3, hb3, hr3⟩; rw [HB2.out]; have hP3 := hP2.below hb3 hP2.lt; have hQ3 := hQ2.below hb3 hQ2.lt; have hI3 := hI2.below hb3 hI2.lt; have hB3 := bG_ hB2 hb3; have u1 := hP3.now; have u2 := hQ3.now; have u3 := hP3.lt; have u4 := hQ3.lt; have u5 := hI3.lt; have h23 := h2.below hb3))
      have hM0 : MS w (w3.alloc (.cells #[.slice none 0 0] 120)) was now A1 A2 c1 c2 w3.heap.size (.slice none 0 0) [] (noneL now.ships.length) A4 (baseL now).1 none [] :=
        ⟨hP3.alloc _, hQ3.alloc _, hI3.alloc _, dirt_new w3, by omega, hB3.alloc hB3.size _, h23.alloc _, Off.low h23 (by omega) (Nat.le_refl _) (dirt_new w3), hr2.mono hI.lt, Sl.zero _ _ _, fun h => absurd h (by simp), Fr.none _⟩
      have hO5 : Off (w3.alloc (.cells #[.slice none 0 0] 120)) w3.heap.size (.slice none 0 0) A5 (baseL was).1.length := Off.low h3 (by omega) (Nat.le_refl _) (dirt_new w3)
      have h35 := h3.alloc (.cells #[.slice none 0 0] 120)
      clear hP hQ hI hB h2 hb2 hr2 hP2 hQ2 hI2 hB2 h3 hb3 hr3 hP3 hQ3 hI3 hB3 u1 u2 h23
      go_cut [14] (fun v14 wq => ∃ g vd, v14 = .pointer (some ⟨g, 0, none⟩) /\ MS w wq was now A1 A2 c1 c2 g vd (dirt0 was now) (noneL now.ships.length) A4 (baseL now).1 none [])
      case first => as_aux_lemma =>
        by_cases e : was.now = now.now
        · have HE := hd_ (HD1.out e)
          have t1 : (was.now == now.now) = true := by simpa using e
          have t2 : decide (was.now = now.now) = true := by simpa using e
          clear HD1 HD2 e
          go_wp2_with (go_at_call 72; refine (differ_any w3.heap.size (w3.heap.size + 1) (.slice none 0 0) [] (baseL was).1 (baseL now).1 A5 A4 c5 c4 _ hM0.dt (by simp) (by omega) (by omega) (by simp) h35 hM0.sb hO5 hM0.ob).mono ?_; rintro e w4 ⟨rfl, v4, hD4, hA4⟩)
          go_meet
          exact ⟨_, v4, rfl, by rw [HE.out]; exact hM0.adds hD4 hA4⟩
        · have HE := hd_ (HD2.out e)
          have t1 : (was.now == now.now) = false := by simpa using e
          have t2 : decide (was.now = now.now) = false := by simpa using e
          clear HD1 HD2 e
          go_wp2_with (go_at_call 73; refine (dirt_add w3.heap.size (w3.heap.size + 1) (.slice none 0 0) [] 0 300 _ hM0.dt (by simp) (by simp)).mono ?_; rintro e w4 ⟨rfl, v4, hD4, hA4⟩)
          go_meet
          exact ⟨_, v4, rfl, by rw [HE.out]; exact hM0.adds hD4 hA4⟩
      clear hM0 hO5 h35 u3 u4 u5 HD1 HD2
      obtain ⟨g, vd, rfl, hM⟩ := hcut
      have u1 := hM.pn.now
      have hd0 := dirt0_len was now hl2.2 hl1.2
      go_wp2_with (first
        | (refine wLP rfl rfl (by first | rfl | simp [aE, aP]) hM.pn ?_)
        | (go_at_call 74; refine (HRK.out _ (Sl.below hin2 hM.bl)).mono ?_; rintro e w6 ⟨A6, c6, rfl, h6, hb6, hr6⟩; have hM2 := hM.rank hb6 h6 hr6)
        | (refine wLP rfl rfl ?hx hM2.pw ?_; (case hx => first | rfl | (simp [aE, aP]; done)))
        | (refine wLP rfl rfl ?hx hM2.pn ?_; (case hx => first | rfl | (simp [aE, aP]; done)))
        | (go_at_call 75; refine (lost_any was now A1 A2 c1 c2 _ _ (Sl.below hin1 hM2.bl) (Sl.below hin2 hM2.bl) (by omega)).mono ?_; rintro e w7 ⟨A7, c7, rfl, h7, hb7, hr7⟩))
      have hM3 := hM2.below hb7
      have hO7 : Off w7 g vd A7 (natsI (lostL was now)).length := Off.new h7 (by omega) hr7 hM2.dt
      clear hM hM2 hb6 h6 hr6 u1 hb7 hr7
      simp only [nIl] at h7 hO7 ⊢
      go_loopw [75] (fun i wr => ∃ (k : Nat) (v2 : Value), k <= (lostL was now).length /\ i = .int .i64 k /\ MS w wr was now A1 A2 c1 c2 g v2 (leftD was plan (dirt0 was now) ((lostL was now).take k)) (noneL now.ships.length) A4 (baseL now).1 A6 (natsI (rankL now)) /\ Sl wr 1 A7 (lostL was now).length ((natsI (lostL was now)).map (Value.int .i64)) /\ Off wr g v2 A7 (lostL was now).length) (fun i _ => (lostL was now).length - (intOf i).toNat)
      case atStart => exact ⟨0, vd, Nat.zero_le _, rfl, hM3, h7, hO7⟩
      case round =>
        clear hM3 h7 hO7
        obtain ⟨k, v2, hk, rfl, hM, h7, hO7⟩ := hrel
        by_cases hlt : k < (lostL was now).length
        · obtain ⟨b7, off7, hA7, hbl7, hc7⟩ := ints_at (l := natsI (lostL was now)) (by rw [nIl]; exact h7) (by rw [nIl]; omega)
          subst hA7
          have e7 := hc7 k (by rw [nIl]; exact hlt)
          rw [natsI_get _ _ hlt] at e7
          clear hc7
          have hx := lost_get hlt
          have HX := hd_ (@left_next was now plan (dirt0 was now) k hlt)
          have hll := leftD_len was plan ((lostL was now).take k) (dirt0 was now)
          have hle := lost_le was now
          have htk : ((lostL was now).take k).length <= 14 := by rw [List.length_take]; omega
          generalize (lostL was now).getD k 0 = x at *
          obtain ⟨b, off, hA, hbl, hcells⟩ := ships_at (Sl.below hin1 hM.bl) (by omega)
          subst hA
          obtain ⟨_, _, d3, _⟩ := hcells x hx
          clear hcells
          change wr.cell? _ = some (.int .i64 (was.ship x).long) at d3
          have hlg := ((HW.out.ship x hx).1).long
          generalize (was.ship x).long = lg at *
          have hpr := place_range HW.out HP.out x
          have HPL := hd_ (Sl.below hpl hM.bl)
          have HPT := hd_ (show place plan x = place plan x from rfl)
          have q1 := hM.pw.ships
          have q2 := hM.pw.lt
          generalize hpx : place plan x = t at *
          have HPX := hd_ hpx
          clear hpx
          have HM := hd_ hM
          have H7 := hd_ h7
          have HO7 := hd_ hO7
          clear hM h7 hO7
          by_cases h0 : 0 <= t
          · have t1 : decide (t >= 0) = true := by simpa using h0
            have HG := hd_ (show ∀ d, gone d t lg = addD d t (t + lg) by intro d; unfold gone; rw [if_pos h0])
            go_wp2_with (first
              | (go_at_call 76; refine (place_any plan Ap cp x _ HPL.out (by have := HLP.out; omega) (by omega)).mono ?_; rintro e w8 ⟨rfl, hb8⟩; rw [HPX.out]; have hM8 := HM.out.below hb8; have q3 := hM8.pw.ships; have d4 := (hb8.cell (p := ⟨b, _, none⟩) hbl).trans d3)
              | (go_at_call 73; refine (dirt_add g (g + 1) v2 _ t (t + lg) _ hM8.dt (by omega) hM8.dt.size).mono ?_; rintro e w9 ⟨rfl, v9, hD9, hA9⟩))
            go_roundw
            case rel => exact ⟨k + 1, v9, by omega, by go_num, by rw [HX.out, HG.out]; exact hM8.adds hD9 hA9, (H7.out.below hb8).adds (HO7.out.size hb8.size) hA9, (HO7.out.size hb8.size).adds hA9⟩
            case measure => simp [intOf] <;> omega
          · have t1 : decide (t >= 0) = false := by simpa using h0
            have HG := hd_ (show ∀ d, gone d t lg = d by intro d; unfold gone; rw [if_neg h0])
            go_wp2_with (go_at_call 76; refine (place_any plan Ap cp x _ HPL.out (by have := HLP.out; omega) (by omega)).mono ?_; rintro e w8 ⟨rfl, hb8⟩; rw [HPX.out]; have hM8 := HM.out.below hb8)
            go_roundw
            case rel => exact ⟨k + 1, v2, by omega, by go_num, by rw [HX.out, HG.out]; exact hM8, H7.out.below hb8, HO7.out.size hb8.size⟩
            case measure => simp [intOf] <;> omega
        · obtain rfl : k = (lostL was now).length := by omega
          rw [List.take_length] at hM
          clear h7 hO7 hd0
          obtain ⟨c6', hM⟩ : ∃ n : Nat, MS w wr was now A1 A2 c1 c2 g v2 (mendAt was now plan 0).d (mendAt was now plan 0).out A4 (mendAt was now plan 0).b A6 (natsI (rankL now)) := ⟨0, hM⟩
          have hd0 : (mend0 was now plan).d.length <= 700 := by
            have h1 := leftD_len was plan (lostL was now) (dirt0 was now)
            have h2 := lost_le was now
            have h3 := dirt0_len was now hl2.2 hl1.2
            show (leftD was plan (dirt0 was now) (lostL was now)).length <= 700
            omega
          have hrl := rank_len now
          have H0 := hd_ (show (mendAt was now plan 0).b = (baseL now).1 /\ (mendAt was now plan 0).n = 0 from ⟨rfl, rfl⟩)
          clear hl1 hl2 HB2 HF0
          go_wp2_with fail
          go_loopg [10, 17, 97] (rankL now).length (fun n s10 s17 s97 wr => ∃ (k : Nat) (A4 : Option Addr) (c4 : Nat) (v2 : Value), n = (rankL now).length - k /\ k <= (rankL now).length /\ s10 = .slice A4 (mendAt was now plan k).b.length c4 /\ s17 = .int .i64 (mendAt was now plan k).n /\ s97 = .int .i64 k /\
            MS w wr was now A1 A2 c1 c2 g v2 (mendAt was now plan k).d (mendAt was now plan k).out A4 (mendAt was now plan k).b A6 (natsI (rankL now)))
          case atStart => exact ⟨0, A4, c4, v2, rfl, Nat.zero_le _, by rw [H0.out.1], by rw [H0.out.2], rfl, hM⟩
          case round =>
            clear hM H0
            obtain ⟨k, A4, c4, v2, hgk, hk, rfl, rfl, rfl, hM⟩ := hrel
            by_cases hlt : k < (rankL now).length
            · have hM6 := hM.sq
              obtain ⟨b6, off6, hA6, hbl6, hc6⟩ := ints_at (l := natsI (rankL now)) hM6 (by rw [nIl]; omega)
              subst hA6
              have e6 := hc6 k (by rw [nIl]; exact hlt)
              rw [natsI_get _ _ hlt] at e6
              clear hc6 hM6
              have j0 := (rank_get (rankL_is HN.out) hlt).1
              have hI := mendAt_inv HW.out HN.out HP.out k hk
              have hgb := good_len hI.good
              have HGB := hd_ hI.good
              have hout := hI.len
              have hn0 := hI.lo
              have hn1 := hI.hi
              have hdl := mendAt_len was now plan k hk
              rw [List.length_take] at hn1
              clear hI
              have HST := hd_ ((mendAt_next (was := was) (plan := plan) hlt).trans (mendStep_eq was now plan (mendAt was now plan k) ((rankL now).getD k 0)))
              generalize (rankL now).getD k 0 = j at *
              generalize mendAt was now plan k = st at *
              have htr := stepT_range HW.out HN.out HP.out HGB.out j0 (st := st)
              have hpr := place_range HW.out HP.out j
              have hlg := ((HN.out.ship j j0).1).long
              obtain ⟨b, off, hA, hbl, hcells⟩ := ships_at (Sl.below hin2 hM.bl) (by omega)
              subst hA
              obtain ⟨d1, d2, d3, d4, d5, d6⟩ := hcells j j0
              clear hcells
              change wr.cell? _ = some (.int .i64 (now.ship j).state) at d1
              change wr.cell? _ = some (.int .i64 (now.ship j).wide) at d2
              change wr.cell? _ = some (.int .i64 (now.ship j).long) at d3
              change wr.cell? _ = some (.int .i64 (now.ship j).cls) at d4
              change wr.cell? _ = some (.int .i64 (now.ship j).since) at d5
              change wr.cell? _ = some (.int .i64 (now.ship j).queued) at d6
              have HPX := hd_ (show place plan j = place plan j from rfl)
              obtain ⟨t0, ht0⟩ : ∃ t0, place plan j = t0 := ⟨_, rfl⟩
              rw [ht0] at hpr
              have HT0 := hd_ ht0
              clear ht0
              obtain ⟨E, hE⟩ : ∃ E : Int, (if 0 <= t0 then t0 + (now.ship j).long else 300) = E := ⟨_, rfl⟩
              have HE := hd_ hE
              clear hE
              have hS := hM.ship (now.ship j)
              have q1 := hM.pn.ships
              have q2 := hM.pn.lt
              have HM := hd_ (hM.alloc (.cells (shipV (now.ship j)) 61))
              have HPL := hd_ ((Sl.below hpl hM.bl).alloc (.cells (shipV (now.ship j)) 61))
              simp only [shipV] at hS HM HPL
              have HS := hd_ hS
              clear hS hM
              go_upto_if 110 with (go_at_call 76; refine (place_any plan Ap cp j _ HPL.out (by have := HLP.out; omega) (by omega)).mono ?_; rintro e w8 ⟨rfl, hb8⟩; rw [HT0.out])
              have hM8 := HM.out.below hb8
              have hS8 := SA.below (s := now.ship j) HS.out hb8
              clear HM HS HPL d1 d2 d3 d4 d5 d6 q1 q2
              go_cut [25] (fun v25 wq => v25 = .int .i64 E /\ MS w wq was now A1 (some ⟨b, off, none⟩) c1 c2 g v2 st.d st.out A4 st.b (some ⟨b6, off6, none⟩) (natsI (rankL now)) /\ SA w wq g v2 wr.heap.size (now.ship j))
              case first => as_aux_lemma =>
                have k2 := hS8.cell 2
                simp only [shipV] at k2
                by_cases h0 : 0 <= t0
                · have t1 : decide (t0 >= 0) = true := by simpa using h0
                  have HEE := hd_ (HE.out.symm.trans (if_pos h0))
                  go_wp2_with fail
                  go_meet
                  exact ⟨by rw [HEE.out], hM8, hS8⟩
                · have t1 : decide (t0 >= 0) = false := by simpa using h0
                  have HEE := hd_ (HE.out.symm.trans (if_neg h0))
                  go_wp2_with fail
                  go_meet
                  exact ⟨by rw [HEE.out], hM8, hS8⟩
              clear hM8 hS8 hb8
              obtain ⟨rfl, hM, hS⟩ := hcut
              have HAG := hd_ (show againB was now plan st.d j = (freshB was now j || (decide (t0 < max 0 now.now) && decide (0 <= t0)) || meets st.d (max 0 now.now) E) by unfold againB; rw [HT0.out, HE.out])
              go_upto_region 32 with fail
              go_cut [132] (fun v132 wq => v132 = .bool (againB was now plan st.d j) /\ MS w wq was now A1 (some ⟨b, off, none⟩) c1 c2 g v2 st.d st.out A4 st.b (some ⟨b6, off6, none⟩) (natsI (rankL now)) /\ SA w wq g v2 wr.heap.size (now.ship j))
              case first => as_aux_lemma =>
                cases hf : freshB was now j
                · have HF := hd_ hf
                  clear hf
                  by_cases h1 : t0 < max 0 now.now
                  · by_cases h2 : 0 <= t0
                    · have t1 : decide (t0 < max 0 now.now) = true := by simpa using h1
                      have t2 : decide (t0 >= 0) = true := by simpa using h2
                      have HV := hd_ (show againB was now plan st.d j = true by rw [HAG.out]; simp [HF.out, h1, h2])
                      go_wp2_with (first
                        | (refine wLP rfl rfl ?hx hM.pw ?_; (case hx => first | rfl | (simp [aE, aP]; done)))
                        | (refine wLP rfl rfl ?hx hM.pn ?_; (case hx => first | rfl | (simp [aE, aP]; done)))
                        | (go_at_call 77; refine (fresh_any was now A1 (some ⟨b, off, none⟩) c1 c2 j _ (Sl.below hin1 hM.bl) (Sl.below hin2 hM.bl) (fun _ => j0) (by omega) (by omega)).mono ?_; rintro e w9 ⟨rfl, hb9⟩; rw [HF.out]; have hM9 := hM.below hb9; have hS9 := hS.below hb9))
                      go_meet
                      exact ⟨by rw [HV.out], hM9, hS9⟩
                    · have t1 : decide (t0 < max 0 now.now) = true := by simpa using h1
                      have t2 : decide (t0 >= 0) = false := by simpa using h2
                      have HV := hd_ (show againB was now plan st.d j = meets st.d (max 0 now.now) E by rw [HAG.out]; simp [HF.out, h1, h2])
                      go_wp2_with (first
                        | (refine wLP rfl rfl ?hx hM.pw ?_; (case hx => first | rfl | (simp [aE, aP]; done)))
                        | (refine wLP rfl rfl ?hx hM.pn ?_; (case hx => first | rfl | (simp [aE, aP]; done)))
                        | (go_at_call 77; refine (fresh_any was now A1 (some ⟨b, off, none⟩) c1 c2 j _ (Sl.below hin1 hM.bl) (Sl.below hin2 hM.bl) (fun _ => j0) (by omega) (by omega)).mono ?_; rintro e w9 ⟨rfl, hb9⟩; rw [HF.out]; have hM9 := hM.below hb9; have hS9 := hS.below hb9)
                        | (go_at_call 78; refine (meets_any g (g + 1) v2 st.d (max 0 now.now) E _ hM9.dt (by omega)).mono ?_; rintro e w10 ⟨rfl, hb10⟩))
                      go_meet
                      exact ⟨by rw [HV.out], hM9.below hb10, hS9.below hb10⟩
                  · have t1 : decide (t0 < max 0 now.now) = false := by simpa using h1
                    have HV := hd_ (show againB was now plan st.d j = meets st.d (max 0 now.now) E by rw [HAG.out]; simp [HF.out, h1])
                    go_wp2_with (first
                      | (refine wLP rfl rfl ?hx hM.pw ?_; (case hx => first | rfl | (simp [aE, aP]; done)))
                      | (refine wLP rfl rfl ?hx hM.pn ?_; (case hx => first | rfl | (simp [aE, aP]; done)))
                      | (go_at_call 77; refine (fresh_any was now A1 (some ⟨b, off, none⟩) c1 c2 j _ (Sl.below hin1 hM.bl) (Sl.below hin2 hM.bl) (fun _ => j0) (by omega) (by omega)).mono ?_; rintro e w9 ⟨rfl, hb9⟩; rw [HF.out]; have hM9 := hM.below hb9; have hS9 := hS.below hb9)
                      | (go_at_call 78; refine (meets_any g (g + 1) v2 st.d (max 0 now.now) E _ hM9.dt (by omega)).mono ?_; rintro e w10 ⟨rfl, hb10⟩))
                    go_meet
                    exact ⟨by rw [HV.out], hM9.below hb10, hS9.below hb10⟩
                · have HF := hd_ hf
                  clear hf
                  have HV := hd_ (show againB was now plan st.d j = true by rw [HAG.out]; simp [HF.out])
                  go_wp2_with (first
                    | (refine wLP rfl rfl ?hx hM.pw ?_; (case hx => first | rfl | (simp [aE, aP]; done)))
                    | (refine wLP rfl rfl ?hx hM.pn ?_; (case hx => first | rfl | (simp [aE, aP]; done)))
                    | (go_at_call 77; refine (fresh_any was now A1 (some ⟨b, off, none⟩) c1 c2 j _ (Sl.below hin1 hM.bl) (Sl.below hin2 hM.bl) (fun _ => j0) (by omega) (by omega)).mono ?_; rintro e w9 ⟨rfl, hb9⟩; rw [HF.out]; have hM9 := hM.below hb9; have hS9 := hS.below hb9))
                  go_meet
                  exact ⟨by rw [HV.out], hM9, hS9⟩
              clear hM hS
              obtain ⟨rfl, hM, hS⟩ := hcut
              go_upto_if 132 with fail
              go_cut [17, 24] (fun v17 v24 wq => v17 = .int .i64 (stepN was now plan st j) /\ v24 = .int .i64 (stepT was now plan st j) /\ ∃ v3, MS w wq was now A1 (some ⟨b, off, none⟩) c1 c2 g v3 (stepDd was now plan st j) st.out A4 st.b (some ⟨b6, off6, none⟩) (natsI (rankL now)) /\ SA w wq g v3 wr.heap.size (now.ship j))
              case first => as_aux_lemma =>
                cases ha : againB was now plan st.d j
                · have HV := hd_ (show stepN was now plan st j = st.n /\ stepT was now plan st j = t0 /\ stepDd was now plan st j = st.d by unfold stepN stepT stepDd; simp [ha, HT0.out])
                  go_wp2_with fail
                  go_meet
                  exact ⟨by rw [HV.out.1], by rw [HV.out.2.1], v2, by rw [HV.out.2.2]; exact hM, hS⟩
                · have HV := hd_ (show stepN was now plan st j = st.n + 1 /\ stepT was now plan st j = fitL st.b (max 0 now.now) (now.ship j).long (now.ship j).wide /\ stepDd was now plan st j = movedS was st.d j t0 (stepT was now plan st j) (now.ship j) by unfold stepN stepT stepDd; simp [ha, HT0.out, movedD_eq])
                  have HFT := hd_ HV.out.2.1.symm
                  have k1 := hS.cell 1
                  have k2 := hS.cell 2
                  simp only [shipV] at k1 k2
                  clear ha
                  go_wp2_with (first
                    | (go_at_call 79; refine (fit_any st.b A4 c4 (max 0 now.now) (now.ship j).long (now.ship j).wide _ hM.sb (by unfold maxLen; omega)).mono ?_; rintro e w10 ⟨rfl, hb10⟩; rw [HFT.out]; have hM10 := hM.below hb10; have hS10 := hS.below hb10; have m0 := hS10.cell 0; have m1 := hS10.cell 1; have m2 := hS10.cell 2; have m3 := hS10.cell 3; have m4 := hS10.cell 4; have m5 := hS10.cell 5; simp only [shipV] at m0 m1 m2 m3 m4 m5)
                    | (refine wLP rfl rfl ?hx hM10.pw ?_; (case hx => first | rfl | (simp [aE, aP]; done)))
                    | (go_at_call 80; refine (moved_any g (g + 1) v2 st.d was A1 c1 j t0 (stepT was now plan st j) (now.ship j) _ hM10.dt (by omega) hM10.dt.size (Sl.below hin1 hM10.bl) (by omega) (by omega) (by omega) (by omega) (by omega) (fun hi => by have := ((HW.out.ship j hi).1).long; omega)).mono ?_; rintro e w11 ⟨rfl, v11, hD11, hA11⟩))
                  go_meet
                  exact ⟨by rw [HV.out.1], rfl, v11, by rw [HV.out.2.2]; exact hM10.adds hD11 hA11, hS10.adds hA11⟩
              clear hM hS HAG
              obtain ⟨rfl, rfl, v3, hM, hS⟩ := hcut
              generalize stepN was now plan st j = N' at *
              generalize stepT was now plan st j = T' at *
              generalize stepDd was now plan st j = D' at *
              have r1 := hM.io.cell j (by rw [hout]; exact j0)
              have r2 := hM.io.frozen j
              have r3 := hM.io.lt
              have r4 := hS.cell 1
              have r5 := hS.cell 2
              have r6 := hS.lo
              have r7 := hS.size
              simp only [shipV] at r4 r5
              have hM2 := hM.set j T'
              have hS2 := hS.set j (.int .i64 T')
              have HM := hd_ hM2
              have HS := hd_ hS2
              have r8 := hS2.cell 1
              have r9 := hS2.cell 2
              simp only [shipV] at r8 r9
              clear hM hS hM2 hS2
              by_cases h0 : 0 <= T'
              · have t1 : decide (T' >= 0) = true := by simpa using h0
                have HSY := hd_ (show (mendAt was now plan (k + 1)).b = (takeL st.b T' (T' + (now.ship j).long) (now.ship j).wide).1 /\ (mendAt was now plan (k + 1)).out = st.out.set j T' /\ (mendAt was now plan (k + 1)).d = D' /\ (mendAt was now plan (k + 1)).n = N' by rw [HST.out]; unfold setT; simp [h0])
                go_wp2_with (go_at_call 81; refine (take_fr st.b A4 c4 T' (T' + (now.ship j).long) (now.ship j).wide _ HM.out.sb (by unfold maxLen; omega)).mono ?_; rintro e w12 ⟨A8, c8, rfl, h8, hb8, hr8⟩)
                have hM3 := HM.out.prof hb8 h8 hr8 hgb.1
                go_roundg ((rankL now).length - (k + 1))
                case measure => omega
                case rel => exact ⟨k + 1, A8, c8, v3, rfl, by omega, by rw [HSY.out.1], by rw [HSY.out.2.2.2], by go_num, by rw [HSY.out.1, HSY.out.2.1, HSY.out.2.2.1]; exact hM3⟩
              · have t1 : decide (T' >= 0) = false := by simpa using h0
                have HSY := hd_ (show (mendAt was now plan (k + 1)).b = st.b /\ (mendAt was now plan (k + 1)).out = st.out.set j T' /\ (mendAt was now plan (k + 1)).d = D' /\ (mendAt was now plan (k + 1)).n = N' by rw [HST.out]; unfold setT; simp [h0])
                go_wp2_with fail
                go_roundg ((rankL now).length - (k + 1))
                case measure => omega
                case rel => exact ⟨k + 1, A4, c4, v3, rfl, by omega, by rw [HSY.out.1], by rw [HSY.out.2.2.2], by go_num, by rw [HSY.out.1, HSY.out.2.1, HSY.out.2.2.1]; exact HM.out⟩
            · obtain rfl : k = (rankL now).length := by omega
              have HA := hd_ (mendAt_all (was := was) (plan := plan) HB1.out)
              have hI := mendAt_inv HW.out HN.out HP.out (rankL now).length (Nat.le_refl _)
              have HL := hd_ hI.len
              clear hI
              go_wp2_with fail
              go_ret2
              refine ⟨some ⟨w.heap.size + 2, 0, none⟩, now.ships.length, ?_, ?_, hM.bl, Fr.some (by omega)⟩
              · exact ret_mend HA.out HL.out
              · rw [<- HA.out]; exact hM.io.sl
end Go.Proofs.YtifmdkcpbajdcabGreatDoor

/- Walks: where nothing has changed nobody is looked at. -/
import Derived.Test.YtifmdkcpbajdcabMendsW
import Derived.Test.YtifmdkcpbajdcabBox
import Derived.Deep.RegionHeld3
namespace Go.Proofs.Ytifmdkcpbajdcab
open Go.RowKit Go.Proofs Plain

/-- What mend's Plan answers of one good port for itself. -/
theorem mend_self (p : Port) (A : Option Addr) (c : Nat) (Ap : Option Addr) (cp : Nat) (w : World) (hg : PGood p) (hin : InP w p A) (hpl : Sl w 1 Ap (thePlan p).length ((thePlan p).map (Value.int .i64))) :
    Calls Try.prog 15 #[.agg (portA p A c), .agg (portA p A c), .slice Ap (thePlan p).length cp] w (RetMend (thePlan p, 0) w) := by
  have := mend_walk p p A A c c (thePlan p) Ap cp w hg hg (thePlan_is hg) hin hin hpl fun w' h => ranked_any p A c w' hg h
  have h1 := (mend_spec hg hg (thePlan_is hg) (rankL_is hg)).1
  rw [planL_the hg (rankL_is hg)] at h1
  have h2 := mend_idle hg (thePlan_is hg) (rankL_is hg)
  rwa [Prod.ext (x := mendL p p (thePlan p) (rankL p)) (y := (thePlan p, 0)) h1 h2] at this

set_option maxRecDepth 100000 in
set_option maxHeartbeats 20000000 in
theorem mendIdle_walk (hmends : MendsOk) (p : Port) (A : Option Addr) (c : Nat) (w : World) (hp : PWf p) (hin : InP w p A) :
    Calls Try.prog 6 #[.agg (portA p A c)] w fun e w' => e = .returned (.bool true) ∧ Below w.heap.size w w' := by
  have HPS := Lib.hid hmends
  clear hmends
  have hG := fun w hin => good_port p A c w hp hin
  cases hg : goodP p with
  | false =>
    rw [hg] at hG
    clear hg
    obtain ⟨v0, v1, v2, v3, v4, v5, v6, v7, v8, v9, v10, v11, v12, v13, v14, v15, hv⟩ := port_vs p A c
    rw [hv] at hG ⊢
    have HG := Lib.hid hG
    clear hG hv
    go_enter Try.func6, Try.ntmps6
    have hP0 := BoxAt.new w #[v0, v1, v2, v3, v4, v5, v6, v7, v8, v9, v10, v11, v12, v13, v14, v15]
    have hB0 : Below w.heap.size w (w.alloc (.cells #[v0, v1, v2, v3, v4, v5, v6, v7, v8, v9, v10, v11, v12, v13, v14, v15] 27)) := (Below.refl _ _).alloc (Nat.le_refl _) _
    go_wp2_with (refine wpList_load_box rfl rfl (by first | rfl | simp [Act.eval, Act.put]) hP0 rfl ?_)
    refine (HG.out _ (Sl.below hin hB0)).mono ?_
    rintro e w1 ⟨rfl, hb1⟩
    go_wp2_with fail
    refine (HPS.out _).mono ?_
    rintro e w2 ⟨rfl, hb2⟩
    go_wp2_with fail
    go_ret
    exact ⟨rfl, below_go (below_go hB0 hb1) hb2⟩
  | true =>
    rw [hg] at hG
    have hgood := (goodP_iff hp.four).1 hg
    have hlen := hgood.len
    have HPL := Lib.hid (plan_len hgood)
    have hMS := fun Ap cp w hin hpl => mend_self p A c Ap cp w hgood hin hpl
    have hPP := fun w hin => plan_any p A c w hgood hin
    clear hg hgood
    obtain ⟨v0, v1, v2, v3, v4, v5, v6, v7, v8, v9, v10, v11, v12, v13, v14, v15, hv⟩ := port_vs p A c
    rw [hv] at hG hMS hPP ⊢
    have HG := Lib.hid hG
    have HMS := Lib.hid hMS
    have HPP := Lib.hid hPP
    clear hG hv hMS hPP
    go_enter Try.func6, Try.ntmps6
    have hP0 := BoxAt.new w #[v0, v1, v2, v3, v4, v5, v6, v7, v8, v9, v10, v11, v12, v13, v14, v15]
    have hB0 : Below w.heap.size w (w.alloc (.cells #[v0, v1, v2, v3, v4, v5, v6, v7, v8, v9, v10, v11, v12, v13, v14, v15] 27)) := (Below.refl _ _).alloc (Nat.le_refl _) _
    go_wp2_with (refine wpList_load_box rfl rfl (by first | rfl | simp [Act.eval, Act.put]) hP0 rfl ?_)
    refine (HG.out _ (Sl.below hin hB0)).mono ?_
    rintro e w1 ⟨rfl, hb1⟩
    have hP1 := BoxAt.below hP0 hb1 (by simp)
    have hB1 := below_go hB0 hb1
    clear hP0 hB0 hb1
    go_wp2_with fail
    go_cut [3, 4] (fun x3 x4 wc => ∃ A3 c3, x3 = .slice A3 (thePlan p).length c3 ∧ x4 = .int .i64 0 ∧ Sl wc 1 A3 (thePlan p).length ((thePlan p).map (Value.int .i64)) ∧ BoxAt wc w.heap.size #[v0, v1, v2, v3, v4, v5, v6, v7, v8, v9, v10, v11, v12, v13, v14, v15] ∧ Below w.heap.size w wc)
    case first => as_aux_lemma =>
      have hz := BoxAt.lt hP1
      have hPd : BoxAt w1.drew w.heap.size #[v0, v1, v2, v3, v4, v5, v6, v7, v8, v9, v10, v11, v12, v13, v14, v15] := hP1
      go_region_held3 (fun w' => w'.cell? ⟨w.heap.size, 0, none⟩ = some v0 ∧ w'.cell? ⟨w.heap.size, 1, none⟩ = some v1 ∧ w'.cell? ⟨w.heap.size, 2, none⟩ = some v2 ∧ w'.cell? ⟨w.heap.size, 3, none⟩ = some v3 ∧ w'.cell? ⟨w.heap.size, 4, none⟩ = some v4 ∧ w'.cell? ⟨w.heap.size, 5, none⟩ = some v5 ∧ w'.cell? ⟨w.heap.size, 6, none⟩ = some v6 ∧ w'.cell? ⟨w.heap.size, 7, none⟩ = some v7 ∧ w'.cell? ⟨w.heap.size, 8, none⟩ = some v8 ∧ w'.cell? ⟨w.heap.size, 9, none⟩ = some v9 ∧ w'.cell? ⟨w.heap.size, 10, none⟩ = some v10 ∧ w'.cell? ⟨w.heap.size, 11, none⟩ = some v11 ∧ w'.cell? ⟨w.heap.size, 12, none⟩ = some v12 ∧ w'.cell? ⟨w.heap.size, 13, none⟩ = some v13 ∧ w'.cell? ⟨w.heap.size, 14, none⟩ = some v14 ∧ w'.cell? ⟨w.heap.size, 15, none⟩ = some v15) (first | exact BoxAt.all hPd | exact BoxAt.all hPR | exact BoxAt.all hPQ) (first
        | (go_at_call 10; refine (HPP.out _ (Sl.drew (Sl.below hin hB1))).mono ?_; rintro e w5 ⟨A5, c5, rfl, h5, hb5, hr5⟩; have hPQ := BoxAt.below hP1 (below_undrew hb5) hz)
        | (go_at_call 15; refine (HMS.out _ _ _ (Sl.below hin (below_go hB1 (below_undrew hb5))) h5).mono ?_; rintro e w6 ⟨A6, c6, rfl, h6, hb6, hr6⟩; have hPR := BoxAt.below hPQ hb6 (BoxAt.lt hPQ)))
      all_goals
        go_wp2_with fail
        go_meet
        exact ⟨A6, c6, rfl, rfl, h6, BoxAt.below hPQ hb6 (BoxAt.lt hPQ), below_go (below_go hB1 (below_undrew hb5)) hb6⟩
    clear hP1 hB1
    obtain ⟨A3, c3, rfl, rfl, h3, hP1, hB1⟩ := hcut
    go_wp2_with (refine wpList_load_box rfl rfl (by first | rfl | simp [Act.eval, Act.put]) hP1 rfl ?_)
    refine (HPP.out _ (Sl.below hin hB1)).mono ?_
    rintro e w5 ⟨A5, c5, rfl, h5, hb5, hr5⟩
    have h35 := h3.below hb5
    have hB5 := below_go hB1 hb5
    clear hP1 hB1 h3 hb5 hr5
    rw [HPL.out] at h35 h5 ⊢
    go_wp2_with fail
    go_loopw [23] (fun i wr => ∃ k m : Nat, k ≤ p.ships.length ∧ i = .int .i64 k ∧ wr = w5.drewN m) (fun i _ => p.ships.length - (intOf i).toNat)
    case atStart => exact ⟨0, 0, Nat.zero_le _, rfl, rfl⟩
    case round =>
      obtain ⟨k, m, hk, rfl, rfl⟩ := hrel
      by_cases hlt : k < p.ships.length
      · obtain ⟨b3, off3, hA3, hbl3, hc3⟩ := ints_at (l := thePlan p) (by rw [HPL.out]; exact h35) (by rw [HPL.out]; omega)
        subst hA3
        have e3 := hc3 k (by rw [HPL.out]; exact hlt)
        obtain ⟨b5, off5, hA5, hbl5, hc5⟩ := ints_at (l := thePlan p) (by rw [HPL.out]; exact h5) (by rw [HPL.out]; omega)
        subst hA5
        have e5 := hc5 k (by rw [HPL.out]; exact hlt)
        clear hc3 hc5
        generalize (thePlan p).getD k 0 = t at *
        have t1 : decide ((k : Int) ≥ (p.ships.length : Int)) = false := by simpa using hlt
        have t2 : (t != t) = false := by simp
        go_wp2_with fail
        go_quiet (fail)
        go_wp2_with fail
        go_roundw
        case rel => exact ⟨k + 1, m + nq, by omega, by go_num, by first | trivial | rw [World.drewN_drewN]⟩
        case measure => simp [intOf] <;> omega
      · obtain rfl : k = p.ships.length := by omega
        go_wp2_with fail
        refine (HPS.out _).mono ?_
        rintro e w11 ⟨rfl, hb11⟩
        go_wp2_with fail
        go_ret
        exact ⟨rfl, below_go (below_drewN hB5 m) hb11⟩
end Go.Proofs.Ytifmdkcpbajdcab

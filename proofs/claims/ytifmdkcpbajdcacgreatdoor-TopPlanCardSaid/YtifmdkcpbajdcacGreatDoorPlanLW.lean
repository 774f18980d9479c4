/- Walks: the plan behind a line: the look, and the law. -/
import Derived.Test.YtifmdkcpbajdcacGreatDoorPlayPlan
import Derived.Test.YtifmdkcpbajdcacGreatDoorTopSame
import Derived.Test.YtifmdkcpbajdcacGreatDoorPlanB
import Derived.Test.YtifmdkcpbajdcacGreatDoorGoodW
set_option linter.unusedVariables false
set_option linter.unusedSimpArgs false
namespace Go.Proofs.YtifmdkcpbajdcacGreatDoor
open Go.RowKit Go.Proofs Plain

theorem port_twoP (p : Port) (A : Option Addr) (c : Nat) : ∃ v2 v3 v4 v5 v6 v7 v8 v9 v10 v11 v12 v13 v14 v15 : Value, portA p A c = #[.int .i64 p.now, .slice A p.ships.length c, v2, v3, v4, v5, v6, v7, v8, v9, v10, v11, v12, v13, v14, v15] ∧
    (#[.int .i64 p.now, .slice A p.ships.length c, v2, v3, v4, v5, v6, v7, v8, v9, v10, v11, v12, v13, v14, v15] : Array Value).all (·.oneCell') = true := ⟨_, _, _, _, _, _, _, _, _, _, _, _, _, _, rfl, portA_one p A c⟩

set_option maxRecDepth 100000 in
set_option maxHeartbeats 16000000 in
theorem planLook_any (G : Nat → Prop) (g : Nat) (d : Desk) (s : ByteArray) (cd nn : Int) (w : World) (hD : DeskAt w G g d) (hset : Settled d.p) :
    Calls Tryz.prog 15 #[.pointer (some ⟨g, 0, none⟩), .string s, .agg #[.int .i64 cd, .int .i64 nn]] w fun e w' => e = .returned (.bool true) ∧ Below w.heap.size w w' := by
  have hg := hset.good
  have HPL := Lib.hid (fun w h => planD_any G g d w h hg)
  have HPO := Lib.hid (fun w h => portD_any G g d w h hg)
  obtain ⟨p, hp⟩ : ∃ p, d.p = p := ⟨_, rfl⟩
  rw [hp] at HPL HPO hg hset
  clear hp
  have hlen := hg.len
  have hpl := plan_len hg
  have HGB := Lib.hid ((goodP_iff hg.four).2 hg)
  have HGO := Lib.hid (fun A c w h => good_port p A c w (fair_wf hg.toFair) h)
  have HPA := Lib.hid (fun A c w h => plan_any p A c w hg h)
  have HNO := Lib.hid hset.none
  have HLP := Lib.hid (show (thePlan p).length ≤ 100000 by rw [hpl]; omega)
  have hn := hg.now
  clear hg hset
  have hD0 := hD.below ((Below.refl _ _).alloc (Nat.le_refl _) (.cells #[.int .i64 cd, .int .i64 nn] 29))
  have hB0 : Below w.heap.size w (w.alloc (.cells #[.int .i64 cd, .int .i64 nn] 29)) := (Below.refl _ _).alloc (Nat.le_refl _) _
  clear hD
  go_enter Tryz.func15, Tryz.ntmps15
  go_wp2_with fail
  refine (HPO.out _ hD0).mono ?_
  rintro e w1 ⟨A1, c1, rfl, ho1, hb1⟩
  have hi1 : InP w1 p A1 := Sl.of_own ho1
  have hD1 := hD0.below hb1
  have hB1 := below_go hB0 hb1
  clear hD0 hB0 hb1 ho1 HPO
  go_wp2_with fail
  refine (HPL.out _ hD1).mono ?_
  rintro e w2 ⟨A3, c3, rfl, ho2, hb2⟩
  have h3 := Sl.of_own ho2
  have hi2 : InP w2 p A1 := Sl.below hi1 hb2
  have hB2 := below_go hB1 hb2
  clear hD1 hB1 hb2 ho2 HPL hi1
  obtain ⟨v2, v3, v4, v5, v6, v7, v8, v9, v10, v11, v12, v13, v14, v15, hv, hvo⟩ := port_twoP p A1 c1
  have hGOv := fun w h => HGO.out A1 c1 w h
  have hPAv := fun w h => HPA.out A1 c1 w h
  rw [hv] at hGOv hPAv ⊢
  rw [HGB.out] at hGOv
  have HGO2 := Lib.hid hGOv
  have HPA2 := Lib.hid hPAv
  clear hGOv hPAv HGO HPA hv HGB
  go_upto_region 2 with (refine wpList_store_box rfl rfl (by first | rfl | simp [Act.eval, Act.put]) (by first | rfl | simp [Act.eval, Act.put]) (BoxAt.new w2 _) rfl rfl hvo ?_; intro w4 hP4 hr4)
  have hb4 : Below w2.heap.size w2 w4 := ((Below.refl _ _).alloc (Nat.le_refl _) _).trans (hr4.below (Nat.le_refl _))
  have hB4 := below_go hB2 hb4
  have hi4 : InP w4 p A1 := Sl.below hi2 hb4
  have h34 := h3.below hb4
  obtain ⟨kb, hkb⟩ : ∃ kb, w2.heap.size = kb := ⟨_, rfl⟩
  rw [hkb] at hP4
  try rw [hkb]
  clear hr4 hB2 hb4 hi2 h3 hkb hvo
  go_wp2_with (refine wpList_load_box rfl rfl (by first | rfl | simp [Act.eval, Act.put]) hP4 rfl ?_)
  refine (HGO2.out _ hi4).mono ?_
  rintro e w5 ⟨rfl, hb5⟩
  have hP5 := hP4.below hb5 hP4.lt
  have hB5 := below_go hB4 hb5
  have hi5 : InP w5 p A1 := Sl.below hi4 hb5
  have h35 := h34.below hb5
  clear hP4 hB4 hi4 h34 hb5 HGO2
  obtain ⟨k0, k1, k2, k3, k4, k5, k6, k7, k8, k9, k10, k11, k12, k13, k14, k15⟩ := BoxAt.all hP5
  go_wp2_with fail
  clear k0 k1 k2 k3 k4 k5 k6 k7 k8 k9 k10 k11 k12 k13 k14 k15
  refine (HPA2.out _ hi5).mono ?_
  rintro e w6 ⟨A6, c6, rfl, h6, hb6, hr6⟩
  have hP6 := hP5.below hb6 hP5.lt
  have hB6 := below_go hB5 hb6
  have h36 := h35.below hb6
  clear hP5 hB5 hi5 h35 hb6 HPA2 hr6
  go_wp2_with fail
  have hs := sameIntsT_any (thePlan p) (thePlan p) A3 A6 c3 c6 _ h36 h6 HLP.out HLP.out
  rw [hpl] at hs
  refine hs.mono ?_
  clear hs
  rintro e w7 ⟨rfl, hb7⟩
  rw [show decide (thePlan p = thePlan p) = true by simp]
  have hP7 := hP6.below hb7 hP6.lt
  have hB7 := below_go hB6 hb7
  have h37 := h36.below hb7
  clear hP6 hB6 h36 h6 hb7
  try rw [hpl]
  rw [hpl] at h37
  have q0 : w7.cell? ⟨kb, 0, none⟩ = some (.int .i64 p.now) := hP7.cell 0
  have hkb := hP7.lt
  clear hP7
  go_wp2_with fail
  go_loop [27] (fun i => ∃ k : Nat, k ≤ p.ships.length ∧ i = .int .i64 k) (fun i => p.ships.length - (intOf i).toNat)
  case atStart => exact ⟨0, Nat.zero_le _, rfl⟩
  case round =>
    obtain ⟨k, hk, rfl⟩ := hrel
    by_cases hlt : k < p.ships.length
    · obtain ⟨b3, off3, hA3, hbl3, hc3⟩ := ints_at (l := thePlan p) (by rw [hpl]; exact h37) (by rw [hpl]; omega)
      subst hA3
      have e3 := hc3 k (by rw [hpl]; exact hlt)
      clear hc3
      have hd : (thePlan p).getD k 0 = (thePlan p).getD k (-1) := by
        have hk2 : k < (thePlan p).length := by rw [hpl]; exact hlt
        rw [List.getD_eq_getElem?_getD, List.getD_eq_getElem?_getD, List.getElem?_eq_getElem hk2]; rfl
      rw [hd] at e3
      have hne := HNO.out k
      obtain ⟨t, ht⟩ : ∃ t, (thePlan p).getD k (-1) = t := ⟨_, rfl⟩
      rw [ht] at e3 hne
      obtain ⟨T, hT⟩ : ∃ T, p.now = T := ⟨_, rfl⟩
      rw [hT] at hne q0
      have n1 : (t == T) = false := by simpa using hne
      clear hd ht hT hne hn
      go_wp2_with fail
      go_round
      case rel => exact ⟨k + 1, by omega, by go_num⟩
      case measure => simp [intOf] <;> omega
    · obtain rfl : k = p.ships.length := by omega
      go_wp2_with fail
      go_ret
      exact ⟨rfl, hB7⟩

set_option maxRecDepth 100000 in
set_option maxHeartbeats 8000000 in
theorem topPlan_walk (Bt : Nat) (l : List ByteArray) (A : Option Addr) (c : Nat) (w : World) (hL : LineAt Bt w) (hsl : StrAt w A l) (hlen : l.length ≤ maxLen) (hsz : ∀ s ∈ l, s.size ≤ maxLen) :
    Calls Tryz.prog 5 #[.slice A l.length c] w fun e w' => e = .returned (.bool true) ∧ Below w.heap.size w w' := by
  have hlow : ∀ b off, A = some ⟨b, off, none⟩ → 0 < l.length → b < w.heap.size := fun b off e h => by
    obtain ⟨b', off', e', hlt, _⟩ := str_at hsl h
    rw [e] at e'
    injection e' with e'
    injection e' with e1 e2
    subst e1
    exact hlt
  have HP := Lib.hid (playPlan_any Bt w.heap.size (fun _ => False) (fun _ => False) (fun _ _ _ => True) l A c w hL hL.size (Nat.le_refl _) hsl hlow hlen hsz (fun _ h => h.elim) (fun _ h => h) (fun _ _ _ _ _ => trivial) (fun _ _ _ _ _ _ _ => trivial)
    (fun g k s wr _ _ hs hD hok _ _ => (planLook_any (GR (fun _ => False) g) g _ s _ _ wr hD (play_ok _ new_ok).now).mono fun e w' ⟨h1, h2⟩ => ⟨h1, Kp.of_below h2, trivial⟩))
  clear hL hsl hlow hlen hsz
  go_enter Tryz.func5, Tryz.ntmps5
  go_wp2_with fail
  refine HP.out.mono ?_
  rintro e w1 ⟨g, rfl, _, _, _, hk⟩
  have hb := hk.none
  clear hk HP
  go_wp2_with fail
  go_ret
  exact ⟨rfl, hb⟩
end Go.Proofs.YtifmdkcpbajdcacGreatDoor

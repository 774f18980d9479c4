/- Walks: the room behind a line: the look, and the law. -/
import Derived.Test.YtifmdkcpbajdcaaGreatDoorPlayRoom
import Derived.Test.YtifmdkcpbajdcaaGreatDoorBaseW
set_option linter.unusedVariables false
set_option linter.unusedSimpArgs false
namespace Go.Proofs.YtifmdkcpbajdcaaGreatDoor
open Go.RowKit Go.Proofs Plain

theorem port_two (p : Port) (A : Option Addr) (c : Nat) : ∃ v2 v3 v4 v5 v6 v7 v8 v9 v10 v11 v12 v13 v14 v15 : Value, portA p A c = #[.int .i64 p.now, .slice A p.ships.length c, v2, v3, v4, v5, v6, v7, v8, v9, v10, v11, v12, v13, v14, v15] ∧
    (#[.int .i64 p.now, .slice A p.ships.length c, v2, v3, v4, v5, v6, v7, v8, v9, v10, v11, v12, v13, v14, v15] : Array Value).all (·.oneCell') = true := ⟨_, _, _, _, _, _, _, _, _, _, _, _, _, _, rfl, portA_one p A c⟩

set_option maxRecDepth 100000 in
set_option maxHeartbeats 16000000 in
theorem roomLook_any (G : Nat → Prop) (g : Nat) (d : Desk) (s : ByteArray) (cd nn : Int) (w : World) (hD : DeskAt w G g d) (hg : PGood d.p) :
    Calls Tryz.prog 6 #[.pointer (some ⟨g, 0, none⟩), .string s, .agg #[.int .i64 cd, .int .i64 nn]] w fun e w' => e = .returned (.bool true) ∧ Below w.heap.size w w' := by
  have HPL := Lib.hid (fun w h => planD_any G g d w h hg)
  have HPO := Lib.hid (fun w h => portD_any G g d w h hg)
  obtain ⟨p, hp⟩ : ∃ p, d.p = p := ⟨_, rfl⟩
  rw [hp] at HPL HPO hg
  clear hp
  have HGD := Lib.hid hg
  have hlen := hg.len
  have hpl := plan_len hg
  have HBT := Lib.hid ((base_good hg.toFair).1.2 hg.room)
  have HBA := Lib.hid (fun A c w h => base_fr p A c w hg.toFair h)
  have hn := hg.now
  clear hg
  have hD0 := hD.below ((Below.refl _ _).alloc (Nat.le_refl _) (.cells #[.int .i64 cd, .int .i64 nn] 28))
  have hB0 : Below w.heap.size w (w.alloc (.cells #[.int .i64 cd, .int .i64 nn] 28)) := (Below.refl _ _).alloc (Nat.le_refl _) _
  clear hD
  go_enter Tryz.func6, Tryz.ntmps6
  go_wp2_with fail
  refine (HPO.out _ hD0).mono ?_
  rintro e w1 ⟨A1, c1, rfl, ho1, hb1⟩
  have hi1 : InP w1 p A1 := Sl.of_own ho1
  have hD1 := hD0.below hb1
  have hB1 := below_go hB0 hb1
  clear hD0 hB0 hb1 ho1 HPO
  go_wp2_with fail
  refine (HPL.out _ hD1).mono ?_
  rintro e w2 ⟨A3, c3, rfl, ho2, hb2⟩
  rw [hpl]
  have h3 := Sl.of_own ho2
  rw [hpl] at h3
  have hi2 : InP w2 p A1 := Sl.below hi1 hb2
  have hB2 := below_go hB1 hb2
  clear hD1 hB1 hb2 ho2 HPL hi1
  obtain ⟨v2, v3, v4, v5, v6, v7, v8, v9, v10, v11, v12, v13, v14, v15, hv, hvo⟩ := port_two p A1 c1
  have hBAv := fun w h => HBA.out A1 c1 w h
  rw [hv] at hBAv ⊢
  have HBA2 := Lib.hid hBAv
  clear hBAv HBA hv
  go_upto_region 2 with (refine wpList_store_box rfl rfl (by first | rfl | simp [Act.eval, Act.put]) (by first | rfl | simp [Act.eval, Act.put]) (BoxAt.new w2 _) rfl rfl hvo ?_; intro w4 hP4 hr4)
  have hb4 : Below w2.heap.size w2 w4 := ((Below.refl _ _).alloc (Nat.le_refl _) _).trans (hr4.below (Nat.le_refl _))
  have hB4 := below_go hB2 hb4
  have hi4 : InP w4 p A1 := Sl.below hi2 hb4
  have h34 := h3.below hb4
  obtain ⟨kb, hkb⟩ : ∃ kb, w2.heap.size = kb := ⟨_, rfl⟩
  rw [hkb] at hP4
  try rw [hkb]
  clear hr4 hB2 hb4 hi2 h3 hkb hvo
  go_wp2_with (refine wpList_load_box rfl rfl (by first | rfl | simp [Act.eval, Act.put]) hP4 rfl ?_)
  refine (HBA2.out _ hi4).mono ?_
  rintro e w5 ⟨A2, c2, rfl, h5, hb5, hr5⟩
  rw [HBT.out]
  have hP5 := hP4.below hb5 hP4.lt
  have hB5 := below_go hB4 hb5
  have hi5 : InP w5 p A1 := Sl.below hi4 hb5
  have h35 := h34.below hb5
  have HI := Lib.hid (show Sl w5 2 A2 (baseL p).1.length (stepCells (baseL p).1) ∧ BoxAt w5 kb #[.int .i64 p.now, .slice A1 p.ships.length c1, v2, v3, v4, v5, v6, v7, v8, v9, v10, v11, v12, v13, v14, v15] ∧ InP w5 p A1 ∧ Below w.heap.size w w5 ∧ Sl w5 1 A3 p.ships.length ((thePlan p).map (Value.int .i64)) from ⟨h5, hP5, hi5, hB5, h35⟩)
  clear hP4 hB4 hi4 h34 hb5 h5 hr5 HBA2 hP5 hB5 hi5 h35 HBT
  go_wp2_with fail
  go_loopw [24, 9, 10] (fun i b ok wr => ∃ (k : Nat) (A4 : Option Addr) (c4 : Nat), k ≤ p.ships.length ∧ i = .int .i64 k ∧ b = .slice A4 (roomL p (thePlan p) k).length c4 ∧ ok = .bool true ∧ Sl wr 2 A4 (roomL p (thePlan p) k).length (stepCells (roomL p (thePlan p) k)) ∧ BoxAt wr kb #[.int .i64 p.now, .slice A1 p.ships.length c1, v2, v3, v4, v5, v6, v7, v8, v9, v10, v11, v12, v13, v14, v15] ∧ InP wr p A1 ∧ Below w.heap.size w wr ∧ Sl wr 1 A3 p.ships.length ((thePlan p).map (Value.int .i64))) (fun i _ _ _ => p.ships.length - (intOf i).toNat)
  case atStart => exact ⟨0, A2, c2, Nat.zero_le _, rfl, rfl, rfl, HI.out.1, HI.out.2.1, HI.out.2.2.1, HI.out.2.2.2.1, HI.out.2.2.2.2⟩
  case round =>
    clear HI
    obtain ⟨k, A4, c4, hk, rfl, rfl, rfl, hS, hP, hi, hB, h3⟩ := hrel
    have q1 : wr.cell? ⟨kb, 1, none⟩ = some (.slice A1 p.ships.length c1) := hP.cell 1
    by_cases hlt : k < p.ships.length
    · obtain ⟨b3, off3, hA3, hbl3, hc3⟩ := ints_at (l := thePlan p) (by rw [hpl]; exact h3) (by rw [hpl]; omega)
      subst hA3
      have e3 := hc3 k (by rw [hpl]; exact hlt)
      clear hc3
      obtain ⟨bs, offs, hA, hbl, hcells⟩ := ships_at hi (by omega)
      subst hA
      obtain ⟨d1, d2, d3, d4, d5, d6⟩ := hcells k hlt
      clear hcells d1 d4 d5 d6
      have hd : (thePlan p).getD k 0 = (thePlan p).getD k (-1) := by
        have hk2 : k < (thePlan p).length := by rw [hpl]; exact hlt
        rw [List.getD_eq_getElem?_getD, List.getD_eq_getElem?_getD, List.getElem?_eq_getElem hk2]; rfl
      rw [hd] at e3
      clear hd
      have HML := Lib.hid (good_max (room_takes HGD.out (thePlan_is HGD.out) k hk).1)
      have hso := (HGD.out.ship k hlt).1
      have hwd := hso.wide
      have hlg := hso.long
      have HST := Lib.hid (@room_still p (thePlan p) k)
      have HOK := Lib.hid (@room_ok p (thePlan p) k HGD.out (thePlan_is HGD.out) hlt)
      have HWT := Lib.hid (@plan_waits p (thePlan p) k HGD.out (thePlan_is HGD.out) hlt)
      clear hso
      obtain ⟨t, ht0⟩ : ∃ t, (thePlan p).getD k (-1) = t := ⟨_, rfl⟩
      rw [ht0] at e3 HST HOK HWT
      obtain ⟨L, hL⟩ : ∃ L, roomL p (thePlan p) k = L := ⟨_, rfl⟩
      rw [hL] at hS HML HST HOK
      rw [hL]
      change wr.cell? _ = some (.int .i64 (p.ship k).wide) at d2
      change wr.cell? _ = some (.int .i64 (p.ship k).long) at d3
      obtain ⟨x, hx⟩ : ∃ x, p.ship k = x := ⟨_, rfl⟩
      rw [hx] at d2 d3 hwd hlg HOK HWT
      clear ht0 hL hx
      obtain ⟨sst, wd, lg, cl, si, qu⟩ := x
      dsimp only at *
      have HS := Lib.hid hS
      have HP := Lib.hid hP
      have HI := Lib.hid hi
      have HB := Lib.hid hB
      have H3 := Lib.hid h3
      have hkl := hP.lt
      clear hS hP hi hB h3
      by_cases ht : t < 0
      · have HE := Lib.hid (HST.out ht)
        clear HST HOK HWT
        have dt : decide (0 ≤ t) = false := by simp; omega
        go_wp2_with fail
        go_roundw
        case rel => exact ⟨k + 1, A4, c4, by omega, by go_num, by rw [HE.out], rfl, by rw [HE.out]; exact HS.out, HP.out, HI.out, HB.out, H3.out⟩
        case measure => simp [intOf] <;> omega
      · have HE := Lib.hid (HOK.out (by omega))
        obtain ⟨s1, s2, s3⟩ := HWT.out (by omega)
        subst s1
        have dt : decide (0 ≤ t) = true := by simp; omega
        have dl : decide ((k : Int) < (p.ships.length : Int)) = true := by simp; omega
        have g1 : IntKind.i64.wrap (t + lg) = t + lg := IntWalk.i64_in _ (by omega)
        have hT := fun w h => take_any L A4 c4 t (t + lg) wd w h HML.out
        rw [HE.out] at hT
        have HT := Lib.hid hT
        clear HST HOK HWT hT
        go_wp2_with fail
        obtain ⟨wq, rfl⟩ : ∃ wq : World, wq = wr := ⟨_, rfl⟩
        have HS0 := Lib.hid (show ∀ w', Below wq.heap.size wq w' → w'.cell? ⟨kb, 1, none⟩ = some (.slice (some ⟨bs, offs, none⟩) p.ships.length c1) ∧ w'.cell? ⟨bs, offs + k * 6 + 2, none⟩ = some (.int .i64 lg) ∧ w'.cell? ⟨bs, offs + k * 6 + 1, none⟩ = some (.int .i64 wd) from
          fun w' h => ⟨(h.cell (p := ⟨kb, 1, none⟩) hkl).trans q1, (h.cell (p := ⟨bs, offs + k * 6 + 2, none⟩) hbl).trans d3, (h.cell (p := ⟨bs, offs + k * 6 + 1, none⟩) hbl).trans d2⟩)
        refine wp_region_plans (S := fun w' => Below wq.heap.size wq w') (.take 0 (.take 1 (.take 2 (.take 3 (.take 4 (.take 5 (.take 6 (.take 7 (.take 8 (.take 9 (.take 10 (.take 11 (.take 12 (.take 13 (.take 14 (.take 15 (.one 16 (.take 17 (.take 18 (.take 19 (.take 20 (.take 21 (.fin))))))))))))))))))))))) (by kernel_rfl) (by kernel_rfl) (Below.refl _ _).drew ?_
        refine plan_take (v := ?_) rfl (by rfl) (fun w' hw' => ?_) ?_
        rotate_left
        · go_simp; try with_reducible rfl
        try simp only [Act.put, List.getElem_toArray, List.getElem_cons_zero, List.getElem_cons_succ, List.setIfInBounds_toArray, List.set_cons_zero, List.set_cons_succ]
        refine plan_take (v := ?_) rfl (by rfl) (fun w' hw' => ?_) ?_
        rotate_left
        · go_simp; try with_reducible rfl
        try simp only [Act.put, List.getElem_toArray, List.getElem_cons_zero, List.getElem_cons_succ, List.setIfInBounds_toArray, List.set_cons_zero, List.set_cons_succ]
        refine plan_take (v := ?_) rfl (by rfl) (fun w' hw' => ?_) ?_
        rotate_left
        · go_simp; try with_reducible rfl
        try simp only [Act.put, List.getElem_toArray, List.getElem_cons_zero, List.getElem_cons_succ, List.setIfInBounds_toArray, List.set_cons_zero, List.set_cons_succ]
        refine plan_take (v := ?_) rfl (by rfl) (fun w' hw' => ?_) ?_
        rotate_left
        · go_simp; try with_reducible rfl
        try simp only [Act.put, List.getElem_toArray, List.getElem_cons_zero, List.getElem_cons_succ, List.setIfInBounds_toArray, List.set_cons_zero, List.set_cons_succ]
        refine plan_take (v := ?_) rfl (by rfl) (fun w' hw' => ?_) ?_
        rotate_left
        · obtain ⟨hx, -, -⟩ := HS0.out w' hw'
          go_simp; try with_reducible rfl
        try simp only [Act.put, List.getElem_toArray, List.getElem_cons_zero, List.getElem_cons_succ, List.setIfInBounds_toArray, List.set_cons_zero, List.set_cons_succ]
        refine plan_take (v := ?_) rfl (by rfl) (fun w' hw' => ?_) ?_
        rotate_left
        · go_simp; try with_reducible rfl
        try simp only [Act.put, List.getElem_toArray, List.getElem_cons_zero, List.getElem_cons_succ, List.setIfInBounds_toArray, List.set_cons_zero, List.set_cons_succ]
        refine plan_take (v := ?_) rfl (by rfl) (fun w' hw' => ?_) ?_
        rotate_left
        · go_simp; try with_reducible rfl
        try simp only [Act.put, List.getElem_toArray, List.getElem_cons_zero, List.getElem_cons_succ, List.setIfInBounds_toArray, List.set_cons_zero, List.set_cons_succ]
        refine plan_take (v := ?_) rfl (by rfl) (fun w' hw' => ?_) ?_
        rotate_left
        · go_simp; try with_reducible rfl
        try simp only [Act.put, List.getElem_toArray, List.getElem_cons_zero, List.getElem_cons_succ, List.setIfInBounds_toArray, List.set_cons_zero, List.set_cons_succ]
        refine plan_take (v := ?_) rfl (by rfl) (fun w' hw' => ?_) ?_
        rotate_left
        · obtain ⟨-, hx, -⟩ := HS0.out w' hw'
          go_simp; try with_reducible rfl
        try simp only [Act.put, List.getElem_toArray, List.getElem_cons_zero, List.getElem_cons_succ, List.setIfInBounds_toArray, List.set_cons_zero, List.set_cons_succ]
        refine plan_take (v := ?_) rfl (by rfl) (fun w' hw' => ?_) ?_
        rotate_left
        · go_simp; try with_reducible rfl
        try simp only [Act.put, List.getElem_toArray, List.getElem_cons_zero, List.getElem_cons_succ, List.setIfInBounds_toArray, List.set_cons_zero, List.set_cons_succ]
        refine plan_take (v := ?_) rfl (by rfl) (fun w' hw' => ?_) ?_
        rotate_left
        · go_simp; try with_reducible rfl
        try simp only [Act.put, List.getElem_toArray, List.getElem_cons_zero, List.getElem_cons_succ, List.setIfInBounds_toArray, List.set_cons_zero, List.set_cons_succ]
        refine plan_take (v := ?_) rfl (by rfl) (fun w' hw' => ?_) ?_
        rotate_left
        · obtain ⟨hx, -, -⟩ := HS0.out w' hw'
          go_simp; try with_reducible rfl
        try simp only [Act.put, List.getElem_toArray, List.getElem_cons_zero, List.getElem_cons_succ, List.setIfInBounds_toArray, List.set_cons_zero, List.set_cons_succ]
        refine plan_take (v := ?_) rfl (by rfl) (fun w' hw' => ?_) ?_
        rotate_left
        · go_simp; try with_reducible rfl
        try simp only [Act.put, List.getElem_toArray, List.getElem_cons_zero, List.getElem_cons_succ, List.setIfInBounds_toArray, List.set_cons_zero, List.set_cons_succ]
        refine plan_take (v := ?_) rfl (by rfl) (fun w' hw' => ?_) ?_
        rotate_left
        · go_simp; try with_reducible rfl
        try simp only [Act.put, List.getElem_toArray, List.getElem_cons_zero, List.getElem_cons_succ, List.setIfInBounds_toArray, List.set_cons_zero, List.set_cons_succ]
        refine plan_take (v := ?_) rfl (by rfl) (fun w' hw' => ?_) ?_
        rotate_left
        · go_simp; try with_reducible rfl
        try simp only [Act.put, List.getElem_toArray, List.getElem_cons_zero, List.getElem_cons_succ, List.setIfInBounds_toArray, List.set_cons_zero, List.set_cons_succ]
        refine plan_take (v := ?_) rfl (by rfl) (fun w' hw' => ?_) ?_
        rotate_left
        · obtain ⟨-, -, hx⟩ := HS0.out w' hw'
          go_simp; try with_reducible rfl
        try simp only [Act.put, List.getElem_toArray, List.getElem_cons_zero, List.getElem_cons_succ, List.setIfInBounds_toArray, List.set_cons_zero, List.set_cons_succ]
        refine plan_one rfl (by rfl) fun K hK => ?_
        go_simp
        go_at_call 10
        refine (HT.out _ (Sl.drew HS.out)).mono ?_
        rintro e w5 ⟨A5, c5, rfl, h5, hb5⟩
        dsimp only at h5 ⊢
        have hb6 : Below wq.heap.size wq w5 := below_undrew hb5
        refine hK.out _ _ hb6 ?_
        clear hK K
        try simp only [Act.put, List.getElem_toArray, List.getElem_cons_zero, List.getElem_cons_succ, List.setIfInBounds_toArray, List.set_cons_zero, List.set_cons_succ]
        refine plan_take (v := ?_) rfl (by rfl) (fun w' hw' => ?_) ?_
        rotate_left
        · go_simp; try with_reducible rfl
        try simp only [Act.put, List.getElem_toArray, List.getElem_cons_zero, List.getElem_cons_succ, List.setIfInBounds_toArray, List.set_cons_zero, List.set_cons_succ]
        refine plan_take (v := ?_) rfl (by rfl) (fun w' hw' => ?_) ?_
        rotate_left
        · go_simp; try with_reducible rfl
        try simp only [Act.put, List.getElem_toArray, List.getElem_cons_zero, List.getElem_cons_succ, List.setIfInBounds_toArray, List.set_cons_zero, List.set_cons_succ]
        refine plan_take (v := ?_) rfl (by rfl) (fun w' hw' => ?_) ?_
        rotate_left
        · go_simp; try with_reducible rfl
        try simp only [Act.put, List.getElem_toArray, List.getElem_cons_zero, List.getElem_cons_succ, List.setIfInBounds_toArray, List.set_cons_zero, List.set_cons_succ]
        refine plan_take (v := ?_) rfl (by rfl) (fun w' hw' => ?_) ?_
        rotate_left
        · go_simp; try with_reducible rfl
        try simp only [Act.put, List.getElem_toArray, List.getElem_cons_zero, List.getElem_cons_succ, List.setIfInBounds_toArray, List.set_cons_zero, List.set_cons_succ]
        refine plan_take (v := ?_) rfl (by rfl) (fun w' hw' => ?_) ?_
        rotate_left
        · go_simp; try with_reducible rfl
        try simp only [Act.put, List.getElem_toArray, List.getElem_cons_zero, List.getElem_cons_succ, List.setIfInBounds_toArray, List.set_cons_zero, List.set_cons_succ]
        refine plan_done (NoPanic.normal ?_)
        have HX := Lib.hid (show Sl w5 2 A5 (roomL p (thePlan p) (k + 1)).length (stepCells (roomL p (thePlan p) (k + 1))) ∧ BoxAt w5 kb #[.int .i64 p.now, .slice (some ⟨bs, offs, none⟩) p.ships.length c1, v2, v3, v4, v5, v6, v7, v8, v9, v10, v11, v12, v13, v14, v15] ∧ InP w5 p (some ⟨bs, offs, none⟩) ∧ Below w.heap.size w w5 ∧ Sl w5 1 (some ⟨b3, off3, none⟩) p.ships.length ((thePlan p).map (Value.int .i64)) from
          ⟨h5, HP.out.below hb6 hkl, Sl.below HI.out hb6, below_go HB.out hb6, H3.out.below hb6⟩)
        clear h5 hb5 hb6 HS0 HS HP HI HB H3 q1 d2 d3 e3 HT
        go_wp2_with fail
        go_roundw
        case rel => exact ⟨k + 1, A5, c5, by omega, by go_num, rfl, rfl, HX.out.1, HX.out.2.1, HX.out.2.2.1, HX.out.2.2.2.1, HX.out.2.2.2.2⟩
        case measure => simp [intOf] <;> omega
    · obtain rfl : k = p.ships.length := by omega
      go_wp2_with fail
      go_ret
      exact ⟨rfl, hB⟩

set_option maxRecDepth 100000 in
set_option maxHeartbeats 8000000 in
theorem topRoom_walk (Bt : Nat) (l : List ByteArray) (A : Option Addr) (c : Nat) (w : World) (hL : LineAt Bt w) (hsl : StrAt w A l) (hlen : l.length ≤ maxLen) (hsz : ∀ s ∈ l, s.size ≤ maxLen) :
    Calls Tryz.prog 3 #[.slice A l.length c] w fun e w' => e = .returned (.bool true) ∧ Below w.heap.size w w' := by
  have hlow : ∀ b off, A = some ⟨b, off, none⟩ → 0 < l.length → b < w.heap.size := fun b off e h => by
    obtain ⟨b', off', e', hlt, _⟩ := str_at hsl h
    rw [e] at e'
    injection e' with e'
    injection e' with e1 e2
    subst e1
    exact hlt
  have HP := Lib.hid (playRoom_any Bt w.heap.size (fun _ => False) (fun _ => False) (fun _ _ _ => True) l A c w hL hL.size (Nat.le_refl _) hsl hlow hlen hsz (fun _ h => h.elim) (fun _ h => h) (fun _ _ _ _ _ => trivial) (fun _ _ _ _ _ _ _ => trivial)
    (fun g k s wr _ _ hs hD hok _ _ => (roomLook_any (GR (fun _ => False) g) g _ s _ _ wr hD (play_ok _ new_ok).now.good).mono fun e w' ⟨h1, h2⟩ => ⟨h1, Kp.of_below h2, trivial⟩))
  clear hL hsl hlow hlen hsz
  go_enter Tryz.func3, Tryz.ntmps3
  go_wp2_with fail
  refine HP.out.mono ?_
  rintro e w1 ⟨g, rfl, _, _, _, hk⟩
  have hb := hk.none
  clear hk HP
  go_wp2_with fail
  go_ret
  exact ⟨rfl, hb⟩
end Go.Proofs.YtifmdkcpbajdcaaGreatDoor

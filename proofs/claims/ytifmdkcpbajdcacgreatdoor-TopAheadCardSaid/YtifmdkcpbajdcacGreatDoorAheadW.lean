/- Walks: who comes moves nobody of its class, or of one ahead. -/
import Derived.Test.YtifmdkcpbajdcacGreatDoorSoloW
import Derived.Test.YtifmdkcpbajdcacGreatDoorTopPlain
import Derived.Test.YtifmdkcpbajdcacGreatDoorPrinted
set_option linter.unusedVariables false
set_option linter.unusedSimpArgs false
namespace Go.Proofs.YtifmdkcpbajdcacGreatDoor
open Go.RowKit Go.Proofs Plain

attribute [local go_sem] field_code
/-- What the loop leans on. -/
structure AhAt (w : World) (Bt g kp kn : Nat) (p q2 : Port) (d2 : Desk) (A4 A5 A8 : Option Addr) (vsP vsN : Array Value) (wr : World) : Prop where
  solo : Solo w wr Bt g d2
  boxP : BoxAt wr kp vsP
  boxN : BoxAt wr kn vsN
  inP : InP wr p A5
  inN : InP wr q2 A8
  plan : Sl wr 1 A4 p.ships.length ((thePlan p).map (Value.int .i64))
theorem AhAt.go {w : World} {Bt g kp kn : Nat} {p q2 : Port} {d2 : Desk} {A4 A5 A8 : Option Addr} {vsP vsN : Array Value} {wr W : World} (h : AhAt w Bt g kp kn p q2 d2 A4 A5 A8 vsP vsN wr) (hb : Below wr.heap.size wr W) : AhAt w Bt g kp kn p q2 d2 A4 A5 A8 vsP vsN W :=
  ⟨h.solo.go hb, h.boxP.below hb h.boxP.lt, h.boxN.below hb h.boxN.lt, Sl.below h.inP hb, Sl.below h.inN hb, Sl.below h.plan hb⟩

set_option maxRecDepth 100000 in
set_option maxHeartbeats 16000000 in
theorem topAhead_walk (Bt : Nat) (l : List ByteArray) (A : Option Addr) (c : Nat) (a b cc : Int) (w : World) (hL : LineAt Bt w) (hsl : StrAt w A l) (hlen : l.length ≤ maxLen) (hsz : ∀ s ∈ l, s.size ≤ maxLen) (ha : i64 a) (hb : i64 b) (hc : i64 cc) :
    Calls Tryz.prog 6 #[.slice A l.length c, .int .i64 a, .int .i64 b, .int .i64 cc] w fun e w' => e = .returned (.bool true) ∧ Below w.heap.size w w' := by
  have HW1 := Lib.hid (lim_wf (k := 1) (.inl rfl) ha hb hc)
  have hc2 : -9223372036854775808 ≤ cc ∧ cc ≤ 9223372036854775807 := hc
  clear ha hb hc
  have hlow := texts_low hsl
  go_enter Tryz.func6, Tryz.ntmps6
  have HPLAY := Lib.hid (playQ_any Bt w.heap.size (fun _ => False) l A c w hL hL.size (Nat.le_refl _) hsl hlow hlen hsz (fun _ h => h.elim))
  have HL := Lib.hid hL
  clear hL hsl hlen hsz hlow
  go_wp2_with fail
  refine HPLAY.out.mono ?_
  rintro e w1 ⟨g, rfl, hg, hd1, hb1⟩
  have hT : Solo w w1 Bt g (behind l) := ⟨hb1, HL.out.below (hb1.mono HL.out.size), Nat.le_trans HL.out.size hg, hg, hd1⟩
  clear HPLAY HL hd1 hb1 hg
  have hac := behind_acts l
  have HOK := Lib.hid (behind_ok l)
  obtain ⟨d, hd⟩ : ∃ d, behind l = d := ⟨_, rfl⟩
  rw [hd] at hT HOK hac
  obtain ⟨p, was, ac⟩ := d
  have HAC := Lib.hid (show ac ≤ 80 by dsimp only at hac; omega)
  clear hac hd
  have hp := HOK.out.now.good
  dsimp only at hp
  have hlen14 := hp.len
  have hpl := plan_len hp
  have HPO := Lib.hid (fun (W : World) (t : Solo w W Bt g ⟨p, was, ac⟩) => portD_any _ g ⟨p, was, ac⟩ W t.one hp)
  have HPL := Lib.hid (fun (W : World) (t : Solo w W Bt g ⟨p, was, ac⟩) => planD_any _ g ⟨p, was, ac⟩ W t.one hp)
  dsimp only at HPO HPL
  have HGP := Lib.hid hp
  clear hp
  by_cases hgo : goodO ⟨1, a, b, cc⟩ = true
  · have HP1 := Lib.hid (fun W (t : LineAt Bt W) => print_good HW1.out t hgo)
    dsimp only at HP1
    obtain ⟨hz1, hp1⟩ := printed hgo
    obtain ⟨z1, hz1e⟩ : ∃ z, bs (printL ⟨1, a, b, cc⟩) = z := ⟨_, rfl⟩
    unfold RetLn at HP1
    rw [hz1e] at HP1 hz1 hp1
    have ht1 := tell_line (d := ⟨p, was, ac⟩) (by have := HAC.out; dsimp only; omega) hp1
    rw [act_one p was 1 a b cc (by omega) (by omega)] at ht1
    dsimp only at ht1
    have HT1 := Lib.hid (fun (W : World) (t : Solo w W Bt g ⟨p, was, ac⟩) => t.tell HOK.out z1 hz1 (by have := HAC.out; dsimp only; omega))
    have HAH := Lib.hid (fun (h : (tellL p ⟨1, a, b, cc⟩).2.2 = 0) => come_ahead HOK.out.now h)
    have HCT := Lib.hid (fun (h : (tellL p ⟨1, a, b, cc⟩).2.2 = 0) => come_told h)
    have HCG := Lib.hid (fun (h : (tellL p ⟨1, a, b, cc⟩).2.2 = 0) => come_good HGP.out h)
    obtain ⟨r, hr⟩ : ∃ r, tellL p ⟨1, a, b, cc⟩ = r := ⟨_, rfl⟩
    rw [hr] at ht1 HAH HCT HCG
    obtain ⟨q, m, e⟩ := r
    dsimp only at ht1 HAH HCT HCG
    clear hgo hz1 hp1 hz1e hr
    go_wp2_with fail
    refine (HP1.out _ (hT.go ((Below.refl _ _).alloc (Nat.le_refl _) (.cells #[.int .i64 1, .int .i64 a, .int .i64 b, .int .i64 cc] 52))).line).mono ?_
    rintro e1 w3 ⟨rfl, hb3⟩
    have hT3 := (hT.go ((Below.refl _ _).alloc (Nat.le_refl _) (.cells #[.int .i64 1, .int .i64 a, .int .i64 b, .int .i64 cc] 52))).go hb3
    clear hT hb3 HP1
    go_wp2_with fail
    refine (HPL.out _ hT3).mono ?_
    rintro e1 w4 ⟨A4, c4, rfl, ho4, hb4⟩
    have h4 := Sl.of_own ho4
    have hf4 := own_fr ho4
    have hg3 := hT3.one.lt
    have hT4 := hT3.go hb4
    rw [hpl]
    rw [hpl] at h4
    clear hT3 hb4 ho4 HPL
    go_wp2_with fail
    refine (HPO.out _ hT4).mono ?_
    rintro e1 w5 ⟨A5, c5, rfl, ho5, hb5⟩
    have hi5 : InP w5 p A5 := Sl.of_own ho5
    have hf5 := own_fr ho5
    have hg4 := hT4.one.lt
    have h45 := h4.below hb5
    have hT5 := hT4.go hb5
    have hg5 := hT5.one.lt
    clear hT4 hb5 ho5 HPO h4
    obtain ⟨v2, v3, v4, v5, v6, v7, v8, v9, v10, v11, v12, v13, v14, v15, hv, hvo⟩ := port_twoS p A5 c5
    rw [hv]
    clear hv
    go_upto_region 7 with (refine wpList_store_box rfl rfl (by first | rfl | simp [Act.eval, Act.put]) (by first | rfl | simp [Act.eval, Act.put]) (BoxAt.new w5 _) rfl rfl hvo ?_; intro w6 hP6 hr6)
    have hb6 := fresh_below hr6
    have hT6 := hT5.go hb6
    have hi6 : InP w6 p A5 := Sl.below hi5 hb6
    have h46 := h45.below hb6
    obtain ⟨kp, hkp⟩ : ∃ kp, w5.heap.size = kp := ⟨_, rfl⟩
    rw [hkp] at hP6 hg5
    try rw [hkp]
    clear hT5 hi5 h45 hb6 hr6 hvo hkp
    by_cases he : e = 0
    · subst he
      have hct := HCT.out rfl
      have hqg := HCG.out rfl
      rw [if_neg (by simp)] at ht1
      dsimp only at ht1
      have hqe : q = p.come ⟨1, a, b, cc, 0, p.next⟩ := by injection hct
      have hql : q.ships.length = p.ships.length + 1 := by rw [hqe]; simp [Port.come]
      rw [← hqe] at hqg
      have hng := (next_plan hqg).1
      have hnl : (nextL q).ships.length = p.ships.length + 1 := by rw [next_len, hql]
      have hnp : (thePlan (nextL q)).length = p.ships.length + 1 := by rw [plan_len hng, hnl]
      have HAH2 := Lib.hid (HAH.out rfl)
      rw [ht1] at HT1
      dsimp only at HT1
      have HPO2 := Lib.hid (fun (W : World) (t : Solo w W Bt g ⟨nextL q, was, ac + 1⟩) => portD_any _ g ⟨nextL q, was, ac + 1⟩ W t.one hng)
      have HPL2 := Lib.hid (fun (W : World) (t : Solo w W Bt g ⟨nextL q, was, ac + 1⟩) => planD_any _ g ⟨nextL q, was, ac + 1⟩ W t.one hng)
      dsimp only at HPO2 HPL2
      clear ht1 hct hqg hqe hql HAH HCT HCG hng
      obtain ⟨q2, hq2⟩ : ∃ q2, nextL q = q2 := ⟨_, rfl⟩
      rw [hq2] at HAH2 HT1 HPO2 HPL2 hnl hnp
      clear hq2
      go_wp2_with fail
      refine (HT1.out _ hT6).mono ?_
      rintro e1 w7 ⟨rfl, hd7, ht7⟩
      have hT7 := hT6.told hd7 ht7
      have hP7 := hP6.tn (show g ≠ kp by omega) ht7
      have hi7 : InP w7 p A5 := sl_tn hi6 hf5 hg4 ht7
      have h47 := sl_tn h46 hf4 hg3 ht7
      clear hT6 hd7 HT1 ht7 hP6 hi6 h46 hf4 hf5 hg3 hg4 hg5
      go_wp2_with fail
      refine (HPO2.out _ hT7).mono ?_
      rintro e1 w8 ⟨A8, c8, rfl, ho8, hb8⟩
      have hi8 : InP w8 q2 A8 := Sl.of_own ho8
      obtain ⟨u2, u3, u4, u5, u6, u7, u8, u9, u10, u11, u12, u13, u14, u15, hu, huo⟩ := port_twoS q2 A8 c8
      rw [hnl] at hu huo
      rw [hu]
      clear hu ho8 HPO2
      have hP8 := hP7.below hb8 hP7.lt
      have hi58 : InP w8 p A5 := Sl.below hi7 hb8
      have h48 := h47.below hb8
      have hT8 := hT7.go hb8
      clear hP7 hi7 h47 hT7 hb8
      go_upto_region 10 with (refine wpList_store_box rfl rfl (by first | rfl | simp [Act.eval, Act.put]) (by first | rfl | simp [Act.eval, Act.put]) (BoxAt.new w8 _) rfl rfl huo ?_; intro w9 hN9 hr9)
      have hb9 := fresh_below hr9
      obtain ⟨kn, hkn⟩ : ∃ kn, w8.heap.size = kn := ⟨_, rfl⟩
      have HST := Lib.hid (show AhAt w Bt g kp kn p q2 ⟨q2, was, ac + 1⟩ A4 A5 A8 #[.int .i64 p.now, .slice A5 p.ships.length c5, v2, v3, v4, v5, v6, v7, v8, v9, v10, v11, v12, v13, v14, v15] #[.int .i64 q2.now, .slice A8 (p.ships.length + 1) c8, u2, u3, u4, u5, u6, u7, u8, u9, u10, u11, u12, u13, u14, u15] w9 from
        ⟨hT8.go hb9, hP8.below hb9 hP8.lt, by rw [← hkn]; exact hN9, Sl.below hi58 hb9, Sl.below hi8 hb9, Sl.below h48 hb9⟩)
      try rw [hkn]
      clear hP8 hi58 hi8 h48 hT8 hb9 hr9 hN9 huo hkn
      go_wp2_with fail
      go_loopw [53] (fun i wr => ∃ k : Nat, k ≤ p.ships.length ∧ i = .int .i64 k ∧ AhAt w Bt g kp kn p q2 ⟨q2, was, ac + 1⟩ A4 A5 A8 #[.int .i64 p.now, .slice A5 p.ships.length c5, v2, v3, v4, v5, v6, v7, v8, v9, v10, v11, v12, v13, v14, v15] #[.int .i64 q2.now, .slice A8 (p.ships.length + 1) c8, u2, u3, u4, u5, u6, u7, u8, u9, u10, u11, u12, u13, u14, u15] wr) (fun i _ => p.ships.length - (intOf i).toNat)
      case atStart => exact ⟨0, Nat.zero_le _, rfl, HST.out⟩
      case round =>
        obtain ⟨k, hk, rfl, hS⟩ := hrel
        clear HST
        by_cases hlt : k < p.ships.length
        · obtain ⟨b4, off4, hA4, hbl4, hc4⟩ := ints_at (l := thePlan p) (by rw [hpl]; exact hS.plan) (by rw [hpl]; omega)
          subst hA4
          have e4 := hc4 k (by rw [hpl]; exact hlt)
          have hd4 : (thePlan p).getD k 0 = (thePlan p).getD k (-1) := by
            have hk2 : k < (thePlan p).length := by rw [hpl]; exact hlt
            rw [List.getD_eq_getElem?_getD, List.getD_eq_getElem?_getD, List.getElem?_eq_getElem hk2]; rfl
          rw [hd4] at e4
          obtain ⟨b5, off5, hA5, hbl5, hc5⟩ := ships_at hS.inP (by omega)
          subst hA5
          obtain ⟨d1, d2, d3, d4, d5, d6⟩ := hc5 k hlt
          obtain ⟨b8, off8, hA8, hbl8, hc8⟩ := ships_at hS.inN (by omega)
          subst hA8
          have f1 := (hc8 k (by omega)).1
          have q5 : wr.cell? ⟨kp, 1, none⟩ = some (.slice (some ⟨b5, off5, none⟩) p.ships.length c5) := hS.boxP.cell 1
          have q8 : wr.cell? ⟨kn, 1, none⟩ = some (.slice (some ⟨b8, off8, none⟩) (p.ships.length + 1) c8) := hS.boxN.cell 1
          have hkp := hS.boxP.lt
          have hkn := hS.boxN.lt
          have HQ := Lib.hid (HAH2.out k hlt)
          change wr.cell? _ = some (.int .i64 (p.ship k).state) at d1
          change wr.cell? _ = some (.int .i64 (p.ship k).wide) at d2
          change wr.cell? _ = some (.int .i64 (p.ship k).long) at d3
          change wr.cell? _ = some (.int .i64 (p.ship k).cls) at d4
          change wr.cell? _ = some (.int .i64 (p.ship k).since) at d5
          change wr.cell? _ = some (.int .i64 (p.ship k).queued) at d6
          change wr.cell? _ = some (.int .i64 (q2.ship k).state) at f1
          obtain ⟨x, hx⟩ : ∃ x, p.ship k = x := ⟨_, rfl⟩
          rw [hx] at d1 d2 d3 d4 d5 d6 HQ
          obtain ⟨t, ht⟩ : ∃ t, (thePlan p).getD k (-1) = t := ⟨_, rfl⟩
          rw [ht] at e4 HQ
          obtain ⟨st, wd, lg, cl, si, qu⟩ := x
          dsimp only at d1 d2 d3 d4 d5 d6 HQ
          have HS := Lib.hid hS
          have HB := Lib.hid (fun (o : Obj) => (Below.refl wr.heap.size wr).alloc (Nat.le_refl _) o)
          have h14 : p.ships.length ≤ 14 := hlen14
          clear hc4 hd4 hc5 hc8 hS hx ht
          by_cases h1 : st = 1
          · subst h1
            by_cases h2 : cl ≤ cc
            · obtain ⟨g1, g2⟩ := HQ.out rfl h2
              rw [g1] at f1
              have HG2 := Lib.hid g2
              have dl : decide (cl ≤ cc) = true := by simpa using h2
              clear HQ g1 g2 h2
              go_wp2_with fail
              refine (HPL2.out _ (HS.out.go (HB.out _)).solo).mono ?_
              rintro e1 wx ⟨Ax, cx, rfl, hox, hbx⟩
              rw [hnp]
              have hsx := Sl.of_own hox
              rw [hnp] at hsx
              obtain ⟨bx, offx, hAx, hblx, hcx⟩ := ints_at (l := thePlan q2) (by rw [hnp]; exact hsx) (by rw [hnp]; omega)
              subst hAx
              have ex := hcx k (by rw [hnp]; omega)
              have hdx : (thePlan q2).getD k 0 = t := by
                have hk2 : k < (thePlan q2).length := by rw [hnp]; omega
                rw [← HG2.out, List.getD_eq_getElem?_getD, List.getD_eq_getElem?_getD, List.getElem?_eq_getElem hk2]; rfl
              rw [hdx] at ex
              have HX := Lib.hid ((HS.out.go (HB.out _)).go hbx)
              have t2 : (t != t) = false := by simp
              clear hox hbx hsx hcx hdx HS HB HG2
              go_wp2_with fail
              go_roundw
              case rel => exact ⟨k + 1, by omega, by go_num, HX.out⟩
              case measure => simp [intOf] <;> omega
            · have dl : decide (cl ≤ cc) = false := by simpa using h2
              clear HQ h2
              go_wp2_with fail
              go_roundw
              case rel => exact ⟨k + 1, by omega, by go_num, HS.out.go (HB.out _)⟩
              case measure => simp [intOf] <;> omega
          · have n1 : (st == 1) = false := by simpa using h1
            clear HQ h1
            go_wp2_with fail
            go_roundw
            case rel => exact ⟨k + 1, by omega, by go_num, HS.out.go (HB.out _)⟩
            case measure => simp [intOf] <;> omega
        · obtain rfl : k = p.ships.length := by omega
          have hB := hS.solo.below
          go_wp2_with fail
          go_ret
          exact ⟨rfl, hB⟩
    · rw [if_pos he] at ht1
      dsimp only at ht1
      rw [ht1] at HT1
      dsimp only at HT1
      have n1 : (e == 0) = false := by simpa using he
      have n2 : (e != 0) = true := by simpa using he
      clear ht1 HAH HCT HCG he
      go_wp2_with fail
      refine (HT1.out _ hT6).mono ?_
      rintro e1 w7 ⟨rfl, hd7, ht7⟩
      have hB := (hT6.told hd7 ht7).below
      clear hT6 hd7 ht7 HT1 hP6 hi6 h46
      go_wp2_with fail
      go_ret
      exact ⟨rfl, hB⟩
  · have HP1 := Lib.hid (fun W (t : LineAt Bt W) => print_bad HW1.out t hgo)
    dsimp only at HP1
    clear hgo
    go_wp2_with fail
    refine (HP1.out _ (hT.go ((Below.refl _ _).alloc (Nat.le_refl _) (.cells #[.int .i64 1, .int .i64 a, .int .i64 b, .int .i64 cc] 52))).line).mono ?_
    rintro e1 w3 ⟨rfl, hb3⟩
    have hT3 := (hT.go ((Below.refl _ _).alloc (Nat.le_refl _) (.cells #[.int .i64 1, .int .i64 a, .int .i64 b, .int .i64 cc] 52))).go hb3
    clear hT hb3 HP1
    go_wp2_with fail
    refine (HPL.out _ hT3).mono ?_
    rintro e1 w4 ⟨A4, c4, rfl, ho4, hb4⟩
    have hT4 := hT3.go hb4
    clear hT3 hb4 ho4 HPL
    go_wp2_with fail
    refine (HPO.out _ hT4).mono ?_
    rintro e1 w5 ⟨A5, c5, rfl, ho5, hb5⟩
    have hT5 := hT4.go hb5
    clear hT4 hb5 ho5 HPO
    obtain ⟨v2, v3, v4, v5, v6, v7, v8, v9, v10, v11, v12, v13, v14, v15, hv, hvo⟩ := port_twoS p A5 c5
    rw [hv]
    clear hv
    go_upto_region 7 with (refine wpList_store_box rfl rfl (by first | rfl | simp [Act.eval, Act.put]) (by first | rfl | simp [Act.eval, Act.put]) (BoxAt.new w5 _) rfl rfl hvo ?_; intro w6 hP6 hr6)
    have hB := (hT5.go (fresh_below hr6)).below
    clear hT5 hr6 hP6
    go_wp2_with fail
    go_ret
    exact ⟨rfl, hB⟩
end Go.Proofs.YtifmdkcpbajdcacGreatDoor

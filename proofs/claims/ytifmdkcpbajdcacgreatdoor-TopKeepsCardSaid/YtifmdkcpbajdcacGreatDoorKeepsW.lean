/- Walks: room is kept just if what lies, is kept and is shut leaves it. -/
import Derived.Test.YtifmdkcpbajdcacGreatDoorSoloW
import Derived.Test.YtifmdkcpbajdcacGreatDoorTopPlain
import Derived.Test.YtifmdkcpbajdcacGreatDoorBaseW
import Derived.Test.YtifmdkcpbajdcacGreatDoorPrinted
set_option linter.unusedVariables false
set_option linter.unusedSimpArgs false
namespace Go.Proofs.YtifmdkcpbajdcacGreatDoor
open Go.RowKit Go.Proofs Plain

theorem act_code (p : Port) (was : Option Port) (k a b c : Int) (h1 : 1 ≤ k) (h8 : k ≤ 8) : (actL p was ⟨k, a, b, c⟩).2.2.1 = (tellL p ⟨k, a, b, c⟩).2.2 := by
  rw [act_one p was k a b c h1 h8]
  by_cases h : (tellL p ⟨k, a, b, c⟩).2.2 ≠ 0
  · rw [if_pos h]
  · rw [if_neg h]; dsimp only; omega
/-- Is all taken that can be kept, so far? -/
def fullTo (p : Port) (m : Nat) : Bool := decide (∀ j, j < m → 0 < (p.keep j).wide)
theorem full_next {p : Port} {m : Nat} (h : 0 < (p.keep m).wide) : fullTo p (m + 1) = fullTo p m := by
  unfold fullTo
  congr 1
  refine propext ⟨fun h2 j hj => h2 j (by omega), fun h2 j hj => ?_⟩
  rcases (by omega : j < m ∨ j = m) with h3 | rfl
  · exact h2 j h3
  · exact h
theorem full_no {p : Port} {m : Nat} (h : ¬ 0 < (p.keep m).wide) : fullTo p (m + 1) = false := by
  unfold fullTo
  exact decide_eq_false fun h2 => h (h2 m (by omega))
theorem full_all {p : Port} (hp : PGood p) : fullTo p 4 = true ↔ freeKeep p = none := by
  rw [keep_full]
  unfold fullTo
  rw [decide_eq_true_eq]
  constructor
  · intro h i hi; have := h i hi; omega
  · intro h i hi
    have h1 := h i hi
    have h2 := hp.kept i hi
    unfold KeptOk at h2
    omega

set_option maxRecDepth 100000 in
set_option maxHeartbeats 16000000 in
theorem topKeeps_walk (Bt : Nat) (l : List ByteArray) (A : Option Addr) (c : Nat) (a b cc : Int) (w : World) (hL : LineAt Bt w) (hsl : StrAt w A l) (hlen : l.length ≤ maxLen) (hsz : ∀ s ∈ l, s.size ≤ maxLen) (ha : i64 a) (hb : i64 b) (hc : i64 cc) :
    Calls Tryz.prog 8 #[.slice A l.length c, .int .i64 a, .int .i64 b, .int .i64 cc] w fun e w' => e = .returned (.bool true) ∧ Below w.heap.size w w' := by
  have HW1 := Lib.hid (lim_wf (k := 6) (.inr (.inl rfl)) ha hb hc)
  have ha2 : -9223372036854775808 ≤ a ∧ a ≤ 9223372036854775807 := ha
  have hb2 : -9223372036854775808 ≤ b ∧ b ≤ 9223372036854775807 := hb
  have hc2 : -9223372036854775808 ≤ cc ∧ cc ≤ 9223372036854775807 := hc
  clear ha hb hc
  have hlow := texts_low hsl
  go_enter Tryz.func8, Tryz.ntmps8
  have HPLAY := Lib.hid (playQ_any Bt w.heap.size (fun _ => False) l A c w hL hL.size (Nat.le_refl _) hsl hlow hlen hsz (fun _ h => h.elim))
  have HL := Lib.hid hL
  clear hL hsl hlen hsz hlow
  go_wp2_with fail
  refine HPLAY.out.mono ?_
  rintro e w1 ⟨g, rfl, hg, hd1, hb1⟩
  have hT : Solo w w1 Bt g (behind l) := ⟨hb1, HL.out.below (hb1.mono HL.out.size), Nat.le_trans HL.out.size hg, hg, hd1⟩
  clear HPLAY HL hd1 hb1 hg
  have hac := behind_acts l
  have HOK := Lib.hid (behind_ok l)
  obtain ⟨d, hd⟩ : ∃ d, behind l = d := ⟨_, rfl⟩
  rw [hd] at hT HOK hac
  obtain ⟨p, was, ac⟩ := d
  have HAC := Lib.hid (show ac ≤ 80 by dsimp only at hac; omega)
  clear hac hd
  have hp := HOK.out.now.good
  dsimp only at hp
  have hn := hp.now
  have HPO := Lib.hid (fun (W : World) (t : Solo w W Bt g ⟨p, was, ac⟩) => portD_any _ g ⟨p, was, ac⟩ W t.one hp)
  dsimp only at HPO
  by_cases hgo : goodO ⟨6, a, b, cc⟩ = true
  · have HP1 := Lib.hid (fun W (t : LineAt Bt W) => print_good HW1.out t hgo)
    dsimp only at HP1
    obtain ⟨hz1, hp1⟩ := printed hgo
    obtain ⟨z1, hz1e⟩ : ∃ z, bs (printL ⟨6, a, b, cc⟩) = z := ⟨_, rfl⟩
    unfold RetLn at HP1
    rw [hz1e] at HP1 hz1 hp1
    have ht1 := tell_line (d := ⟨p, was, ac⟩) (by have := HAC.out; dsimp only; omega) hp1
    dsimp only at ht1
    have HT1 := Lib.hid (fun (W : World) (t : Solo w W Bt g ⟨p, was, ac⟩) => t.tell HOK.out z1 hz1 (by have := HAC.out; dsimp only; omega))
    rw [ht1] at HT1
    rw [act_code p was 6 a b cc (by omega) (by omega)] at HT1
    obtain ⟨NX, hNX⟩ : ∃ NX, (actL p was ⟨6, a, b, cc⟩).2.2.2 = NX := ⟨_, rfl⟩
    obtain ⟨dn, hdn⟩ : ∃ dn : Desk, (⟨(actL p was ⟨6, a, b, cc⟩).1, (actL p was ⟨6, a, b, cc⟩).2.1, ac + 1⟩ : Desk) = dn := ⟨_, rfl⟩
    dsimp only at HT1
    rw [hNX, hdn] at HT1
    have HBT := Lib.hid ((base_good hp.toFair).1.2 hp.room)
    have HBA := Lib.hid (fun A c w h => base_fr p A c w hp.toFair h)
    have hbg := ((base_good hp.toFair).2 HBT.out).1
    have HML := Lib.hid (good_max hbg)
    have HRG := Lib.hid (fun (h : ¬ ((1 ≤ a ∧ a ≤ 16) ∧ p.now ≤ b ∧ b < cc ∧ cc ≤ 300)) => keep_range (p := p) h)
    have HRM := Lib.hid (fun (h1 : 1 ≤ a ∧ a ≤ 16) (h2 : p.now ≤ b) (h3 : b < cc) (h4 : cc ≤ 300) => keep_room hp h1 h2 h3 h4)
    have HFA := Lib.hid (full_all hp)
    obtain ⟨CX, hCX⟩ : ∃ CX, (tellL p ⟨6, a, b, cc⟩).2.2 = CX := ⟨_, rfl⟩
    rw [hCX] at HT1 HRG HRM
    clear hgo hz1 hp1 hz1e ht1 hNX hdn hbg hCX
    go_wp2_with fail
    refine (HP1.out _ hT.line).mono ?_
    rintro e1 w3 ⟨rfl, hb3⟩
    have hT3 := hT.go hb3
    clear hT hb3 HP1
    go_wp2_with fail
    refine (HPO.out _ hT3).mono ?_
    rintro e1 w5 ⟨A5, c5, rfl, ho5, hb5⟩
    have hi5 : InP w5 p A5 := Sl.of_own ho5
    have hf5 := own_fr ho5
    have hg4 := hT3.one.lt
    have hT5 := hT3.go hb5
    have hg5 := hT5.one.lt
    clear hT3 hb5 ho5 HPO
    go_upto_region 8 with (refine wpList_store_box rfl rfl (by first | rfl | simp [Act.eval, Act.put]) (by first | rfl | simp [Act.eval, Act.put]) (BoxAt.new w5 _) rfl rfl (portA_one p A5 c5) ?_; intro w6 hP6 hr6)
    have hb6 := fresh_below hr6
    have hT6 := hT5.go hb6
    have hi6 : InP w6 p A5 := Sl.below hi5 hb6
    obtain ⟨kp, hkp⟩ : ∃ kp, w5.heap.size = kp := ⟨_, rfl⟩
    rw [hkp] at hP6 hg5
    try rw [hkp]
    clear hT5 hi5 hb6 hr6 hkp
    go_wp2_with fail
    refine (HT1.out _ hT6).mono ?_
    rintro e1 w7 ⟨rfl, hd7, ht7⟩
    have hT7 := (hT6.told hd7 ht7).go ((Below.refl _ _).alloc (Nat.le_refl _) (.cells #[.int .i64 CX, .int .i64 NX] 29))
    have hP7 : PortAt (w7.alloc (.cells #[.int .i64 CX, .int .i64 NX] 29)) kp p A5 c5 := PortAt.alloc (show PortAt w7 kp p A5 c5 from BoxAt.tn hP6 (show g ≠ kp by omega) ht7) _
    have hi7 : InP (w7.alloc (.cells #[.int .i64 CX, .int .i64 NX] 29)) p A5 := Sl.alloc (sl_tn hi6 hf5 hg4 ht7) _
    have hR7 := RpAt.new w7 CX NX
    clear hT6 hd7 HT1 ht7 hP6 hi6 hf5 hg4 hg5
    obtain ⟨W8, hW8⟩ : ∃ W8, W8 = w7.alloc (.cells #[.int .i64 CX, .int .i64 NX] 29) := ⟨_, rfl⟩
    obtain ⟨kr, hkr⟩ : ∃ kr, w7.heap.size = kr := ⟨_, rfl⟩
    rw [← hW8] at hT7 hP7 hi7 hR7
    rw [hkr] at hR7
    go_upto_region 9 with (fail)
    rw [← hW8]
    try rw [hkr]
    clear hW8 hkr
    have hP8 := hP7
    have hB8 := hT7.below
    have q0 := hP8.now
    have c0 := hR7.cell0
    clear hP7 hT7
    by_cases hok : (1 ≤ a ∧ a ≤ 16) ∧ p.now ≤ b ∧ b < cc ∧ cc ≤ 300
    · obtain ⟨⟨o1, o2⟩, o3, o4, o5⟩ := hok
      have HRM2 := Lib.hid (HRM.out ⟨o1, o2⟩ o3 o4 o5)
      clear HRM HRG
      go_wp2_with (refine wpList_load_port rfl rfl (by first | rfl | simp [Act.eval, Act.put]) hP8 ?_)
      refine (HBA.out A5 c5 _ hi7).mono ?_
      rintro e1 w9 ⟨A9, c9, rfl, h9, hb9, hr9⟩
      rw [HBT.out]
      have hP9 := hP8.below hb9 hP8.lt
      have hB9 := below_go hB8 hb9
      have hR9 := hR7.below hb9 hR7.lt
      clear hP8 hB8 hR7 hb9 hr9 hi7 q0 c0
      go_wp2_with fail
      refine (take_any (baseL p).1 A9 c9 b cc a _ h9 HML.out).mono ?_
      rintro e1 w10 ⟨A10, c10, he, h10, hb10⟩
      obtain ⟨rm, hrm⟩ : ∃ rm, (takeL (baseL p).1 b cc a).2 = rm := ⟨_, rfl⟩
      rw [hrm] at he HRM2
      obtain rfl := he
      have hP8 := hP9.below hb10 hP9.lt
      have hB10 := below_go hB9 hb10
      have hR10 := hR9.below hb10 hR9.lt
      have hkplt := hP8.lt
      clear hP9 hB9 hR9 hb10 h9 h10 hrm
      have hk0 := hP8.cell 2
      have hk1 := hP8.cell 3
      have hk2 := hP8.cell 4
      have hk3 := hP8.cell 5
      have hk4 := hP8.cell 6
      have hk5 := hP8.cell 7
      have hk6 := hP8.cell 8
      have hk7 := hP8.cell 9
      have hk8 := hP8.cell 10
      have hk9 := hP8.cell 11
      have hk10 := hP8.cell 12
      have hk11 := hP8.cell 13
      simp only [portA] at hk0 hk1 hk2 hk3 hk4 hk5 hk6 hk7 hk8 hk9 hk10 hk11
      have HB10 := Lib.hid hB10
      have HR10 := Lib.hid hR10
      clear hP8 hB10 hR10
      go_wp2_with fail
      go_loopw [83, 19] (fun i x19 wi => ∃ m : Nat, m ≤ 4 ∧ i = .int .i64 m ∧ x19 = .bool (fullTo p m) ∧ RpAt wi kr CX NX ∧ Below w.heap.size w wi) (fun i _ _ => 4 - (intOf i).toNat)
      case atStart => exact ⟨0, by omega, rfl, by rw [show fullTo p 0 = true from decide_eq_true fun j hj => absurd hj (by omega)], HR10.out, HB10.out⟩
      case round =>
        obtain ⟨m, hm, rfl, rfl, hR, hB⟩ := hrel
        clear hk0 hk1 hk2 hk3 hk4 hk5 hk6 hk7 hk8 hk9 hk10 hk11 HR10 HB10
        by_cases hlt : m < 4
        · have HN1 := Lib.hid (@full_next p m)
          have HN2 := Lib.hid (@full_no p m)
          have HK : Hid (∃ wd fr tt, (Value.agg #[.int .i64 (p.keep m).wide, .int .i64 (p.keep m).fr, .int .i64 (p.keep m).to]) = .agg #[.int .i64 wd, .int .i64 fr, .int .i64 tt] ∧ (p.keep m).wide = wd) := Lib.hid ⟨_, _, _, rfl, rfl⟩
          obtain ⟨wd, fr, tt, hkv, hwd⟩ := HK.out
          have HKV := Lib.hid hkv
          rw [hwd] at HN1 HN2
          obtain ⟨F, hF⟩ : ∃ F, fullTo p m = F := ⟨_, rfl⟩
          rw [hF] at HN1
          try rw [hF]
          have HR := Lib.hid hR
          have HBB := Lib.hid hB
          have hkl := hR.lt
          have hbs := hB.size
          have HFN := Lib.hid (fun h : F = false => show fullTo p (m + 1) = false from by
            unfold fullTo at hF ⊢
            rw [h] at hF
            have h2 := of_decide_eq_false hF
            exact decide_eq_false fun h3 => h2 fun j hj => h3 j (by omega))
          clear hkv hwd hF hR hB HK
          cases F with
          | false =>
            have HX := Lib.hid (HFN.out rfl)
            go_wp2_with (refine wpList_index_kept (p := p) (k := m) rfl rfl rfl rfl hlt ?_; rw [HKV.out])
            go_roundw
            case rel => exact ⟨m + 1, by omega, by go_num, by rw [HX.out], HR.out.alloc _, HBB.out.alloc hbs _⟩
            case measure => simp [intOf] <;> omega
          | true =>
            by_cases h0 : 0 < wd
            · have HX := Lib.hid (HN1.out h0)
              have dw : decide (0 < wd) = true := by simpa using h0
              go_wp2_with (refine wpList_index_kept (p := p) (k := m) rfl rfl rfl rfl hlt ?_; rw [HKV.out])
              go_roundw
              case rel => exact ⟨m + 1, by omega, by go_num, by rw [HX.out], HR.out.alloc _, HBB.out.alloc hbs _⟩
              case measure => simp [intOf] <;> omega
            · have HX := Lib.hid (HN2.out h0)
              have dw : decide (0 < wd) = false := by simpa using h0
              go_wp2_with (refine wpList_index_kept (p := p) (k := m) rfl rfl rfl rfl hlt ?_; rw [HKV.out])
              go_roundw
              case rel => exact ⟨m + 1, by omega, by go_num, by rw [HX.out], HR.out.alloc _, HBB.out.alloc hbs _⟩
              case measure => simp [intOf] <;> omega
        · obtain rfl : m = 4 := by omega
          have c0 := hR.cell0
          have hfa := HFA.out
          have hrm := HRM2.out
          cases hff : fullTo p 4 with
          | true =>
            rw [hfa.1 hff] at hrm
            dsimp only at hrm
            subst hrm
            clear hfa hff HFA HRM2
            go_wp2_with fail
            go_ret
            exact ⟨rfl, hB⟩
          | false =>
            have hsome : ∃ i, freeKeep p = some i := by
              cases hf : freeKeep p with
              | none => rw [hfa.2 hf] at hff; cases hff
              | some i => exact ⟨i, rfl⟩
            obtain ⟨i, hi⟩ := hsome
            rw [hi] at hrm
            dsimp only at hrm
            clear hfa hff HFA HRM2 hi
            cases rm with
            | true =>
              rw [if_pos rfl] at hrm
              subst hrm
              go_wp2_with fail
              go_ret
              exact ⟨rfl, hB⟩
            | false =>
              rw [if_neg (by simp)] at hrm
              subst hrm
              go_wp2_with fail
              go_ret
              exact ⟨rfl, hB⟩
    · have h2 := HRG.out hok
      subst h2
      rcases (by omega : a < 1 ∨ (1 ≤ a ∧ 16 < a) ∨ (1 ≤ a ∧ a ≤ 16 ∧ b < p.now) ∨ (1 ≤ a ∧ a ≤ 16 ∧ p.now ≤ b ∧ cc ≤ b) ∨ (1 ≤ a ∧ a ≤ 16 ∧ p.now ≤ b ∧ b < cc ∧ 300 < cc)) with o | ⟨o1, o2⟩ | ⟨o1, o2, o3⟩ | ⟨o1, o2, o3, o4⟩ | ⟨o1, o2, o3, o4, o5⟩
      all_goals
        clear hok HRG HRM HFA HBA HBT HML hi7 hR7 hP8
        go_wp2_with fail
        go_ret
        exact ⟨rfl, hB8⟩
  · have HP1 := Lib.hid (fun W (t : LineAt Bt W) => print_bad HW1.out t hgo)
    dsimp only at HP1
    clear hgo
    go_wp2_with fail
    refine (HP1.out _ hT.line).mono ?_
    rintro e1 w3 ⟨rfl, hb3⟩
    have hB := (hT.go hb3).below
    clear hT hb3 HP1
    go_wp2_with fail
    go_ret
    exact ⟨rfl, hB⟩
end Go.Proofs.YtifmdkcpbajdcacGreatDoor

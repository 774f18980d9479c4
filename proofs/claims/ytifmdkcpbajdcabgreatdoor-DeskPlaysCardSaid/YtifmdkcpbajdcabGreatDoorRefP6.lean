/- Walks: the document's answers: a port. -/
import Derived.Test.YtifmdkcpbajdcabGreatDoorRefPA
import Derived.Test.YtifmdkcpbajdcabGreatDoorGoodW
set_option linter.unusedVariables false
set_option linter.unusedSimpArgs false
namespace Go.Proofs.YtifmdkcpbajdcabGreatDoor
open Go.RowKit Go.Proofs Plain
open Go.Lib renaming hid -> hd_
def apartTo (p : Port) (k j : Nat) : Bool := decide (∀ i, i < j -> (p.ship i).queued ≠ (p.ship k).queued)
theorem apart_next (p : Port) (k j : Nat) : apartTo p k (j + 1) = (apartTo p k j && decide ((p.ship j).queued ≠ (p.ship k).queued)) := by
  unfold apartTo
  rw [Bool.eq_iff_iff]
  simp only [decide_eq_true_eq, Bool.and_eq_true]
  constructor
  · intro h; exact ⟨fun i hi => h i (by omega), h j (by omega)⟩
  · rintro ⟨h1, h2⟩ i hi
    rcases (by omega : i < j \/ i = j) with h | rfl
    · exact h1 i h
    · exact h2
theorem apart_start (p : Port) (k : Nat) : apartTo p k 0 = true := by unfold apartTo; simp
theorem ships_step (p : Port) (k : Nat) (H : Bool) : (H && shipsTo p (k + 1)) = ((H && shipsTo p k && (shipB (p.ship k) p.now && decide ((p.ship k).queued < p.next))) && apartTo p k k) := by
  have e : (!decide ((p.ship k).queued ∈ seenTo p k)) = apartTo p k k := by
    unfold apartTo
    rw [Bool.eq_iff_iff]
    simp only [Bool.not_eq_true', decide_eq_false_iff_not, decide_eq_true_eq, seen_mem]
    constructor
    · intro h i hi e; exact h ⟨i, hi, e⟩
    · rintro h ⟨j, hj, e⟩; exact h j hj e
  rw [shipsTo, e]
  cases H <;> cases shipsTo p k <;> cases shipB (p.ship k) p.now <;> simp
set_option maxRecDepth 100000 in
set_option maxHeartbeats 40000000 in
theorem isPort_any (p : Port) (A : Option Addr) (c : Nat) (w : World) (hp : PWf p) (hcap : p.ships.length <= c) (hin : InP w p A) :
    Calls Tryz.prog 68 #[.agg (portA p A c)] w fun e w' => e = .returned (.bool (goodP p)) /\ Below w.heap.size w w' := by
  have hml : p.ships.length <= 9223372036854775807 := hp.len
  have HWF := hd_ hp
  have hnow := hp.now
  have HHD := hd_ (show headB p = (inB p.now 0 299 && inB p.shut 0 16 && decide (p.ships.length <= 14) && inB p.next 0 1048576) from rfl)
  have hP0 : PortAt (w.alloc (.cells (portA p A c) 36)) w.heap.size p A c := PortAt.new w p A c
  have hB0 : Below w.heap.size w (w.alloc (.cells (portA p A c) 36)) := (Below.refl _ _).alloc (Nat.le_refl _) _
  simp only [portA] at hP0 hB0 ⊢
  go_enter Tryz.func68, Tryz.ntmps68
  go_upto_region 1 with fail
  go_cut [3] (fun x3 wq => x3 = .bool (headB p) /\ PortAt wq w.heap.size p A c /\ Below w.heap.size w wq)
  case first => as_aux_lemma =>
    cases h1 : inB p.now 0 299
    · have H1 := hd_ (iBW h1)
      have E := hd_ (show headB p = false by rw [HHD.out, h1]; rfl)
      clear h1
      go_wp2_with (go_at_call 41; (with_reducible refine (wI_ _ H1.out).mono ?_); rintro e w' ⟨rfl, rfl⟩)
      go_meet
      exact ⟨by rw [E.out], hP0, hB0⟩
    · cases h2 : inB p.shut 0 16
      · have H1 := hd_ (iBW h1)
        have H2 := hd_ (iBW h2)
        have E := hd_ (show headB p = false by rw [HHD.out, h1, h2]; rfl)
        clear h1 h2
        go_wp2_with (first
          | (go_at_call 41; (with_reducible refine (wI_ _ H1.out).mono ?_); rintro e w' ⟨rfl, rfl⟩)
          | (go_at_call 41; (with_reducible refine (wI_ _ H2.out).mono ?_); rintro e w' ⟨rfl, rfl⟩))
        go_meet
        exact ⟨by rw [E.out], hP0, hB0⟩
      · by_cases h3 : p.ships.length <= 14
        · have H1 := hd_ (iBW h1)
          have H2 := hd_ (iBW h2)
          cases h4 : inB p.next 0 1048576
          all_goals
            have H4 := hd_ (iBW h4)
            have E := hd_ (HHD.out)
            rw [h1, h2, h4] at E
            have E2 := hd_ (E.out)
            have t1 : decide ((p.ships.length : Int) < 15) = true := by simp <;> omega
            clear h4 E
            go_wp2_with (first
              | (go_at_call 41; (with_reducible refine (wI_ _ H1.out).mono ?_); rintro e w' ⟨rfl, rfl⟩)
              | (go_at_call 41; (with_reducible refine (wI_ _ H2.out).mono ?_); rintro e w' ⟨rfl, rfl⟩)
              | (go_at_call 41; (with_reducible refine (wI_ _ H4.out).mono ?_); rintro e w' ⟨rfl, rfl⟩))
            go_meet
            exact ⟨by rw [E2.out]; simp [h3], hP0, hB0⟩
        · have H1 := hd_ (iBW h1)
          have H2 := hd_ (iBW h2)
          have E := hd_ (show headB p = false by rw [HHD.out, h1, h2]; simp [h3])
          have t1 : decide ((p.ships.length : Int) < 15) = false := by simp <;> omega
          clear h1 h2
          go_wp2_with (first
            | (go_at_call 41; (with_reducible refine (wI_ _ H1.out).mono ?_); rintro e w' ⟨rfl, rfl⟩)
            | (go_at_call 41; (with_reducible refine (wI_ _ H2.out).mono ?_); rintro e w' ⟨rfl, rfl⟩))
          go_meet
          exact ⟨by rw [E.out], hP0, hB0⟩
  clear hP0 hB0
  obtain ⟨rfl, hP0, hB0⟩ := hcut
  have q1 := hP0.ships
  go_wp2_with fail
  go_loopw [3, 32] (fun x3 i wr => ∃ k : Nat, k <= p.ships.length /\ i = .int .i64 k /\ x3 = .bool (headB p && shipsTo p k) /\ PortAt wr w.heap.size p A c /\ Below w.heap.size w wr) (fun _ i _ => p.ships.length - (intOf i).toNat)
  case atStart => exact ⟨0, Nat.zero_le _, rfl, by simp [shipsTo], hP0, hB0⟩
  case round =>
    clear q1 hP0 hB0
    obtain ⟨k, hk, rfl, rfl, hP, hB⟩ := hrel
    have q0 := hP.now
    have q1 := hP.ships
    have q15 := hP.next
    have q3 := hP.lt
    by_cases hlt : k < p.ships.length
    · obtain ⟨b, off, hA, hbl, hcells⟩ := ships_at (Sl.below hin hB) (by omega)
      subst hA
      obtain ⟨d1, d2, d3, d4, d5, d6⟩ := hcells k hlt
      clear hcells
      change wr.cell? _ = some (.int .i64 (p.ship k).state) at d1
      change wr.cell? _ = some (.int .i64 (p.ship k).wide) at d2
      change wr.cell? _ = some (.int .i64 (p.ship k).long) at d3
      change wr.cell? _ = some (.int .i64 (p.ship k).cls) at d4
      change wr.cell? _ = some (.int .i64 (p.ship k).since) at d5
      change wr.cell? _ = some (.int .i64 (p.ship k).queued) at d6
      have HST := hd_ (ships_step p k (headB p))
      obtain ⟨K, hK⟩ : ∃ K, (headB p && shipsTo p k) = K := ⟨_, rfl⟩
      rw [hK] at HST ⊢
      have HAN := hd_ (apart_next p k)
      have HAS := hd_ (apart_start p k)
      clear hK
      obtain ⟨K1, hK1⟩ : ∃ K1, (K && (shipB (p.ship k) p.now && decide ((p.ship k).queued < p.next))) = K1 := ⟨_, rfl⟩
      have HK1 := hd_ hK1
      rw [hK1] at HST
      clear hK1
      generalize p.ship k = s at *
      have hX : InP (wr.alloc (.cells (shipV s) 61)) p (some ⟨b, off, none⟩) := Sl.alloc (Sl.below hin hB) _
      have hP1 := hP.alloc (.cells (shipV s) 61)
      have hB1 := hB.alloc hB.size (.cells (shipV s) 61)
      have hbox : ∀ j, ((wr.alloc (.cells (shipV s) 61)).cell? ⟨wr.heap.size, j, none⟩) = (shipV s)[j]? := fun j => by
        rw [cell_of_row _ wr.heap.size j _ _ _ (heap_alloc_new wr _)]
      have HBX := hd_ hbox
      clear hbox
      have HS := hd_ (fun w => isShip_any s p.now w hnow)
      have hkc : k <= c := by omega
      have hgl : w.heap.size < wr.heap.size := q3
      obtain ⟨st, wd, lg, cl, si, qu⟩ := s
      simp only [shipV] at hP1 hB1 HBX HS
      dsimp only at *
      go_upto_region 5 with fail
      go_cut [3] (fun x3 wq => x3 = .bool K1 /\ PortAt wq w.heap.size p (some ⟨b, off, none⟩) c /\ Below w.heap.size w wq /\ wq.cell? ⟨wr.heap.size, 5, none⟩ = some (.int .i64 qu))
      case first => as_aux_lemma =>
        have y5 := HBX.out 5
        simp only [List.getElem?_toArray] at y5
        cases K with
        | false =>
          have E := hd_ (show K1 = false by rw [<- HK1.out]; rfl)
          go_wp2_with fail
          go_meet
          exact ⟨by rw [E.out], hP1, hB1, y5⟩
        | true =>
          cases hsb : shipB ⟨st, wd, lg, cl, si, qu⟩ p.now
          · have E := hd_ (show K1 = false by rw [<- HK1.out, hsb]; rfl)
            have HSB := hd_ hsb
            clear hsb
            go_wp2_with (go_at_call 105; refine (HS.out _).mono ?_; rintro e w5 ⟨rfl, hb5⟩; rw [HSB.out]; have hP5 := hP1.below hb5 hP1.lt; have z5 := (hb5.cell (p := ⟨wr.heap.size, 5, none⟩) (by simp)).trans y5; have q15' := hP5.next)
            go_meet
            exact ⟨by rw [E.out], hP5, bG_ hB1 hb5, z5⟩
          · have E := hd_ (show K1 = decide (qu < p.next) by rw [<- HK1.out, hsb]; simp)
            have HSB := hd_ hsb
            clear hsb
            go_wp2_with (go_at_call 105; refine (HS.out _).mono ?_; rintro e w5 ⟨rfl, hb5⟩; rw [HSB.out]; have hP5 := hP1.below hb5 hP1.lt; have z5 := (hb5.cell (p := ⟨wr.heap.size, 5, none⟩) (by simp)).trans y5; have q15' := hP5.next)
            go_meet
            exact ⟨by rw [E.out], hP5, bG_ hB1 hb5, z5⟩
      clear d1 d2 d3 d4 d5 d6 hP hB hP1 hB1 q0 q1 q15 q3 hX HBX HS HK1
      obtain ⟨rfl, hP, hB, y5⟩ := hcut
      have q1 := hP.ships
      have q3 := hP.lt
      obtain ⟨g5, hg5⟩ : ∃ g5, wr.heap.size = g5 := ⟨_, rfl⟩
      rw [hg5] at y5 hgl ⊢
      clear hg5 hbl
      go_wp2_with fail
      go_loopw [3, 56] (fun x3 i wr => ∃ j : Nat, j <= k /\ i = .int .i64 j /\ x3 = .bool (K1 && apartTo p k j) /\ PortAt wr w.heap.size p (some ⟨b, off, none⟩) c /\ Below w.heap.size w wr /\ wr.cell? ⟨g5, 5, none⟩ = some (.int .i64 qu)) (fun _ i _ => k - (intOf i).toNat)
      case atStart => exact ⟨0, Nat.zero_le _, rfl, by rw [HAS.out, Bool.and_true], hP, hB, y5⟩
      case round =>
        clear hP hB y5 q1 q3
        obtain ⟨j, hj, rfl, rfl, hP, hB, y5⟩ := hrel
        have z5 := cell_lt y5
        by_cases hjl : j < k
        · obtain ⟨b2, off2, hA2, hbl2, hcells⟩ := ships_at (Sl.below hin hB) (by omega)
          injection hA2 with e
          injection e with e1 e2
          subst e1; subst e2
          obtain ⟨f1, f2, f3, f4, f5, f6⟩ := hcells j (by omega)
          clear hcells
          change wr.cell? _ = some (.int .i64 (p.ship j).state) at f1
          change wr.cell? _ = some (.int .i64 (p.ship j).wide) at f2
          change wr.cell? _ = some (.int .i64 (p.ship j).long) at f3
          change wr.cell? _ = some (.int .i64 (p.ship j).cls) at f4
          change wr.cell? _ = some (.int .i64 (p.ship j).since) at f5
          change wr.cell? _ = some (.int .i64 (p.ship j).queued) at f6
          have hy6 := (World.cell?_alloc_lt wr (.cells (shipV (p.ship j)) 61) ⟨g5, 5, none⟩ z5).trans y5
          obtain ⟨V, hV⟩ : ∃ V, (K1 && apartTo p k j) = V := ⟨_, rfl⟩
          have HV := hd_ (show (K1 && apartTo p k (j + 1)) = (V && decide ((p.ship j).queued ≠ qu)) by rw [HAN.out j, <- Bool.and_assoc, hV])
          rw [hV]
          clear hV
          generalize p.ship j = y at *
          obtain ⟨yst, ywd, ylg, ycl, ysi, yqu⟩ := y
          simp only [shipV] at hy6
          dsimp only at f1 f2 f3 f4 f5 f6 HV
          cases V with
          | false =>
            have E := hd_ (show (K1 && apartTo p k (j + 1)) = false by rw [HV.out]; rfl)
            go_wp2_with fail
            go_roundw
            case rel => exact ⟨j + 1, by omega, by go_num, by rw [E.out], hP.alloc _, hB.alloc hB.size _, hy6⟩
            case measure => simp [intOf] <;> omega
          | true =>
            by_cases e : yqu = qu
            · have E := hd_ (show (K1 && apartTo p k (j + 1)) = false by rw [HV.out]; simp [e])
              subst e
              have t1 : (yqu != yqu) = false := by simp
              go_wp2_with fail
              go_roundw
              case rel => exact ⟨j + 1, by omega, by go_num, by rw [E.out], hP.alloc _, hB.alloc hB.size _, hy6⟩
              case measure => simp [intOf] <;> omega
            · have E := hd_ (show (K1 && apartTo p k (j + 1)) = true by rw [HV.out]; simp [e])
              obtain ⟨a1, a2, a3⟩ := ne_facts' e
              go_wp2_with fail
              go_roundw
              case rel => exact ⟨j + 1, by omega, by go_num, by rw [E.out], hP.alloc _, hB.alloc hB.size _, hy6⟩
              case measure => simp [intOf] <;> omega
        · obtain rfl : j = k := by omega
          go_wp2_with fail
          go_roundw
          case rel => exact ⟨j + 1, by omega, by go_num, by rw [HST.out], hP, hB⟩
          case measure => simp [intOf] <;> omega
    · obtain rfl : k = p.ships.length := by omega
      have HGP := hd_ (show goodP p = ((headB p && shipsTo p p.ships.length && keptTo p 4) && (baseL p).2) from rfl)
      have HFI := hd_ (fun h : (headB p && shipsTo p p.ships.length && keptTo p 4) = true => (fair_iff HWF.out.four).1 h)
      obtain ⟨K2, hK2⟩ : ∃ K2, (headB p && shipsTo p p.ships.length) = K2 := ⟨_, rfl⟩
      rw [hK2] at HGP HFI ⊢
      clear hK2
      have hk0 := hP.cell 2
      have hk1 := hP.cell 3
      have hk2 := hP.cell 4
      have hk3 := hP.cell 5
      have hk4 := hP.cell 6
      have hk5 := hP.cell 7
      have hk6 := hP.cell 8
      have hk7 := hP.cell 9
      have hk8 := hP.cell 10
      have hk9 := hP.cell 11
      have hk10 := hP.cell 12
      have hk11 := hP.cell 13
      simp only [portA] at hk0 hk1 hk2 hk3 hk4 hk5 hk6 hk7 hk8 hk9 hk10 hk11
      go_wp2_with fail
      go_loopw [3, 72] (fun x3 i wr => ∃ m : Nat, m <= 4 /\ i = .int .i64 m /\ x3 = .bool (K2 && keptTo p m) /\ PortAt wr w.heap.size p A c /\ Below w.heap.size w wr) (fun _ i _ => 4 - (intOf i).toNat)
      case atStart => exact ⟨0, by omega, rfl, by simp [keptTo], hP, hB⟩
      case round =>
        clear hk0 hk1 hk2 hk3 hk4 hk5 hk6 hk7 hk8 hk9 hk10 hk11 q0 q1 q15 q3 hP hB
        obtain ⟨m, hm, rfl, rfl, hP, hB⟩ := hrel
        by_cases hml : m < 4
        · obtain ⟨V, hV⟩ : ∃ V, (K2 && keptTo p m) = V := ⟨_, rfl⟩
          have HV := hd_ (show (K2 && keptTo p (m + 1)) = (V && keptB (p.keep m)) by rw [keptTo, <- Bool.and_assoc, hV])
          rw [hV]
          clear hV
          obtain ⟨wd, hwd⟩ : ∃ x, (p.keep m).wide = x := ⟨_, rfl⟩
          obtain ⟨fr, hfr⟩ : ∃ x, (p.keep m).fr = x := ⟨_, rfl⟩
          obtain ⟨tt, htt⟩ : ∃ x, (p.keep m).to = x := ⟨_, rfl⟩
          have HK := hd_ (show (Value.agg #[.int .i64 (p.keep m).wide, .int .i64 (p.keep m).fr, .int .i64 (p.keep m).to]) = .agg #[.int .i64 wd, .int .i64 fr, .int .i64 tt] by rw [hwd, hfr, htt])
          have HKB := hd_ (show keptB (p.keep m) = ((decide (wd = 0) && decide (fr = 0) && decide (tt = 0)) || (inB wd 1 16 && decide (0 <= fr) && decide (fr < tt) && decide (tt <= 300))) by unfold keptB; rw [hwd, hfr, htt])
          generalize keptB (p.keep m) = B at *
          clear hwd hfr htt
          have hfin : PortAt (wr.alloc (.cells #[.int .i64 wd, .int .i64 fr, .int .i64 tt] 33)) w.heap.size p A c /\ Below w.heap.size w (wr.alloc (.cells #[.int .i64 wd, .int .i64 fr, .int .i64 tt] 33)) := ⟨hP.alloc _, hB.alloc hB.size _⟩
          have HFN := hd_ hfin
          clear hfin
          cases V with
          | false =>
            have E := hd_ (show (K2 && keptTo p (m + 1)) = false by rw [HV.out]; rfl)
            go_upto_region 15 with (refine wIK (p := p) (k := m) rfl rfl rfl rfl hml ?_; rw [HK.out])
            go_wp2_with fail
            go_roundw
            case rel => exact ⟨m + 1, by omega, by go_num, by rw [E.out], HFN.out⟩
            case measure => simp [intOf] <;> omega
          | true =>
            have E := hd_ (show (K2 && keptTo p (m + 1)) = B by rw [HV.out]; simp)
            clear HV
            by_cases z1 : wd = 0
            · by_cases z2 : fr = 0
              · by_cases z3 : tt = 0
                · have E2 := hd_ (show B = true by rw [HKB.out]; simp [z1, z2, z3])
                  subst z1; subst z2; subst z3
                  go_upto_region 15 with (refine wIK (p := p) (k := m) rfl rfl rfl rfl hml ?_; rw [HK.out])
                  go_wp2_with fail
                  go_roundw
                  case rel => exact ⟨m + 1, by omega, by go_num, by rw [E.out, E2.out], HFN.out⟩
                  case measure => simp [intOf] <;> omega
                · have E2 := hd_ (show B = false by rw [HKB.out]; simp [z1, z3, inB])
                  subst z1; subst z2
                  obtain ⟨a1, a2, a3⟩ := ne_facts' z3
                  have HW0 := hd_ (show (decide ((1 : Int) <= 0) && decide ((0 : Int) <= 16)) = false by decide)
                  go_upto_region 15 with (refine wIK (p := p) (k := m) rfl rfl rfl rfl hml ?_; rw [HK.out])
                  go_wp2_with (first
                    | (go_at_call 41; (with_reducible refine (wI_ _ HW0.out).mono ?_); rintro e w' ⟨rfl, rfl⟩))
                  go_roundw
                  case rel => exact ⟨m + 1, by omega, by go_num, by rw [E.out, E2.out], HFN.out⟩
                  case measure => simp [intOf] <;> omega
              · have E2 := hd_ (show B = false by rw [HKB.out]; simp [z1, z2, inB])
                subst z1
                obtain ⟨a1, a2, a3⟩ := ne_facts' z2
                have HW0 := hd_ (show (decide ((1 : Int) <= 0) && decide ((0 : Int) <= 16)) = false by decide)
                go_upto_region 15 with (refine wIK (p := p) (k := m) rfl rfl rfl rfl hml ?_; rw [HK.out])
                go_wp2_with (first
                  | (go_at_call 41; (with_reducible refine (wI_ _ HW0.out).mono ?_); rintro e w' ⟨rfl, rfl⟩))
                go_roundw
                case rel => exact ⟨m + 1, by omega, by go_num, by rw [E.out, E2.out], HFN.out⟩
                case measure => simp [intOf] <;> omega
            · obtain ⟨a1, a2, a3⟩ := ne_facts' z1
              have E3 := hd_ (show B = (inB wd 1 16 && decide (0 <= fr) && decide (fr < tt) && decide (tt <= 300)) by rw [HKB.out]; simp [z1])
              clear HKB
              cases c1 : inB wd 1 16
              · have E2 := hd_ (show B = false by rw [E3.out, c1]; rfl)
                have H1 := hd_ (iBW c1)
                clear c1 E3
                go_upto_region 15 with (refine wIK (p := p) (k := m) rfl rfl rfl rfl hml ?_; rw [HK.out])
                go_wp2_with (first
                  | (go_at_call 41; (with_reducible refine (wI_ _ H1.out).mono ?_); rintro e w' ⟨rfl, rfl⟩))
                go_roundw
                case rel => exact ⟨m + 1, by omega, by go_num, by rw [E.out, E2.out], HFN.out⟩
                case measure => simp [intOf] <;> omega
              · have H1 := hd_ (iBW c1)
                rw [c1, Bool.true_and] at E3
                clear c1
                cases c2 : inB fr 0 300
                · have H2 := hd_ (iBW c2)
                  have E2 := hd_ (show B = false by
                    rw [E3.out, <- Bool.not_eq_true]
                    intro h
                    simp only [Bool.and_eq_true, decide_eq_true_eq] at h
                    rw [(inB_iff _ _ _).2 (by omega)] at c2
                    cases c2)
                  clear c2 E3
                  go_upto_region 15 with (refine wIK (p := p) (k := m) rfl rfl rfl rfl hml ?_; rw [HK.out])
                  go_wp2_with (first
                    | (go_at_call 41; (with_reducible refine (wI_ _ H1.out).mono ?_); rintro e w' ⟨rfl, rfl⟩)
                    | (go_at_call 41; (with_reducible refine (wI_ _ H2.out).mono ?_); rintro e w' ⟨rfl, rfl⟩))
                  go_roundw
                  case rel => exact ⟨m + 1, by omega, by go_num, by rw [E.out, E2.out], HFN.out⟩
                  case measure => simp [intOf] <;> omega
                · have H2 := hd_ (iBW c2)
                  have h0 := ((inB_iff _ _ _).1 c2).1
                  have E4 := hd_ (show B = (decide (fr < tt) && decide (tt <= 300)) by rw [E3.out, decide_eq_true h0, Bool.true_and])
                  clear c2 E3
                  by_cases c3 : fr < tt
                  · have E2 := hd_ (show B = decide (tt <= 300) by rw [E4.out]; simp [c3])
                    have t3 : decide (fr < tt) = true := by simpa using c3
                    clear E4
                    go_upto_region 15 with (refine wIK (p := p) (k := m) rfl rfl rfl rfl hml ?_; rw [HK.out])
                    go_wp2_with (first
                      | (go_at_call 41; (with_reducible refine (wI_ _ H1.out).mono ?_); rintro e w' ⟨rfl, rfl⟩)
                      | (go_at_call 41; (with_reducible refine (wI_ _ H2.out).mono ?_); rintro e w' ⟨rfl, rfl⟩))
                    go_roundw
                    case rel => exact ⟨m + 1, by omega, by go_num, by rw [E.out, E2.out], HFN.out⟩
                    case measure => simp [intOf] <;> omega
                  · have E2 := hd_ (show B = false by rw [E4.out]; simp [c3])
                    have t3 : decide (fr < tt) = false := by simpa using c3
                    clear E4
                    go_upto_region 15 with (refine wIK (p := p) (k := m) rfl rfl rfl rfl hml ?_; rw [HK.out])
                    go_wp2_with (first
                      | (go_at_call 41; (with_reducible refine (wI_ _ H1.out).mono ?_); rintro e w' ⟨rfl, rfl⟩)
                      | (go_at_call 41; (with_reducible refine (wI_ _ H2.out).mono ?_); rintro e w' ⟨rfl, rfl⟩))
                    go_roundw
                    case rel => exact ⟨m + 1, by omega, by go_num, by rw [E.out, E2.out], HFN.out⟩
                    case measure => simp [intOf] <;> omega
        · obtain rfl : m = 4 := by omega
          obtain ⟨V, hV⟩ : ∃ V, (K2 && keptTo p 4) = V := ⟨_, rfl⟩
          rw [hV] at HGP HFI ⊢
          clear hV
          cases V with
          | false =>
            have E := hd_ (show goodP p = false by rw [HGP.out]; rfl)
            go_wp2_with fail
            go_ret
            exact ⟨rtB E.out.symm, hB⟩
          | true =>
            have E := hd_ (show goodP p = (baseL p).2 by rw [HGP.out, Bool.true_and])
            have HFR := hd_ (HFI.out rfl)
            go_wp2_with (first
              | (refine wLP rfl rfl (by first | rfl | simp [Act.eval, Act.put]) hP ?_)
              | (go_at_call 47; refine (baseOf_any p A c _ HFR.out (Sl.below hin hB)).mono ?_; rintro e w7 ⟨fs, _, _, rfl, hb7⟩))
            go_ret
            exact ⟨rtB E.out.symm, bG_ hB hb7⟩
end Go.Proofs.YtifmdkcpbajdcabGreatDoor

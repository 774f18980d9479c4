/- Walks: what was begun and undone has never been. -/
import Derived.Test.YtifmdkcpbajdcabGreatDoorSoloW
set_option linter.unusedVariables false
set_option linter.unusedSimpArgs false
namespace Go.Proofs.YtifmdkcpbajdcabGreatDoor
open Go.RowKit Go.Proofs Plain

attribute [local go_sem] field_code
def begT : Txt := [98, 101, 103, 105, 110]
def undT : Txt := [117, 110, 100, 111]
theorem parse_beg : parseL begT = some ⟨10, 0, 0, 0⟩ := by
  unfold parseL
  rw [if_neg (by decide), show toks begT = [begT] by decide]
  unfold parseT
  dsimp only
  rw [if_pos (by decide)]; rfl
theorem parse_und : parseL undT = some ⟨12, 0, 0, 0⟩ := by
  unfold parseL
  rw [if_neg (by decide), show toks undT = [undT] by decide]
  unfold parseT
  dsimp only
  rw [if_pos (by decide)]; rfl
theorem tell_beg0 (p : Port) (ac : Nat) (h : ac < 250) : tellD ⟨p, none, ac⟩ begT = (⟨p, some p, ac + 1⟩, 0, 0) := by
  rw [tell_line (d := ⟨p, none, ac⟩) h parse_beg]; rfl
theorem tell_beg1 (p q : Port) (ac : Nat) (h : ac < 250) : tellD ⟨p, some q, ac⟩ begT = (⟨p, some q, ac + 1⟩, 7, 0) := by
  rw [tell_line (d := ⟨p, some q, ac⟩) h parse_beg]; rfl
theorem tell_und0 (p : Port) (ac : Nat) (h : ac < 250) : tellD ⟨p, none, ac⟩ undT = (⟨p, none, ac + 1⟩, 7, 0) := by
  rw [tell_line (d := ⟨p, none, ac⟩) h parse_und]; rfl
theorem tell_und1 (p q : Port) (ac : Nat) (h : ac < 250) : tellD ⟨p, some q, ac⟩ undT = (⟨q, none, ac + 1⟩, 0, 0) := by
  rw [tell_line (d := ⟨p, some q, ac⟩) h parse_und]; rfl
theorem act_was (p : Port) (was : Option Port) (o : Order) (h : o.kind ≠ 10 ∧ o.kind ≠ 11 ∧ o.kind ≠ 12) : (actL p was o).2.1 = was := by
  unfold actL
  by_cases k9 : o.kind = 9
  · rw [if_pos k9]; split <;> rfl
  rw [if_neg k9, if_neg h.1, if_neg h.2.1, if_neg h.2.2]
  by_cases k13 : o.kind = 13
  · rw [if_pos k13]; split <;> rfl
  rw [if_neg k13]
  by_cases k14 : o.kind = 14
  · rw [if_pos k14]
  rw [if_neg k14]; split <;> rfl
theorem tell_was (d : Desk) (s : Txt) (h : ∀ o, parseL s = some o → o.kind ≠ 10 ∧ o.kind ≠ 11 ∧ o.kind ≠ 12) : (tellD d s).1.was = d.was ∧ (tellD d s).1.acts ≤ d.acts + 1 := by
  unfold tellD
  by_cases ha : 250 ≤ d.acts
  · rw [if_pos ha]; exact ⟨rfl, by dsimp only; omega⟩
  rw [if_neg ha]
  cases hp : parseL s with
  | none => exact ⟨rfl, Nat.le_refl _⟩
  | some o => exact ⟨act_was d.p d.was o (h o hp), Nat.le_refl _⟩

/-- What is kept while more is told. -/
structure UnAt (w : World) (Bt g kp : Nat) (p : Port) (d : Desk) (A4 A5 : Option Addr) (vs : Array Value) (n : Nat) (wr : World) : Prop where
  solo : Solo w wr Bt g d
  ok : DOk d
  was : d.was = some p
  acts : d.acts ≤ n
  box : BoxAt wr kp vs
  inP : InP wr p A5
  plan : Sl wr 1 A4 (thePlan p).length ((thePlan p).map (Value.int .i64))
theorem UnAt.go {w : World} {Bt g kp n : Nat} {p : Port} {d : Desk} {A4 A5 : Option Addr} {vs : Array Value} {wr W : World} (h : UnAt w Bt g kp p d A4 A5 vs n wr) (hb : Below wr.heap.size wr W) : UnAt w Bt g kp p d A4 A5 vs n W :=
  ⟨h.solo.go hb, h.ok, h.was, h.acts, h.box.below hb h.box.lt, Sl.below h.inP hb, Sl.below h.plan hb⟩
theorem UnAt.told {w : World} {Bt g kp n n0 : Nat} {p : Port} {d d' : Desk} {A4 A5 : Option Addr} {vs : Array Value} {wr W : World} (h : UnAt w Bt g kp p d A4 A5 vs n wr) (hd : DeskAt W (GR (fun _ => False) g) g d') (ht : Tn g wr W)
    (hk : g ≠ kp) (h4 : Fr n0 A4) (h5 : Fr n0 A5) (hg : g < n0) (hok : DOk d') (hwas : d'.was = some p) (ha : d'.acts ≤ n + 1) : UnAt w Bt g kp p d' A4 A5 vs (n + 1) W :=
  ⟨h.solo.told hd ht, hok, hwas, ha, h.box.tn hk ht, sl_tn h.inP h5 hg ht, sl_tn h.plan h4 hg ht⟩

set_option maxRecDepth 100000 in
set_option maxHeartbeats 16000000 in
theorem topUndo_walk (Bt : Nat) (l : List ByteArray) (A : Option Addr) (c : Nat) (m : List ByteArray) (A2 : Option Addr) (c2 : Nat) (w : World) (hL : LineAt Bt w) (hsl : StrAt w A l) (hlen : l.length ≤ maxLen) (hsz : ∀ s ∈ l, s.size ≤ maxLen) (hsl2 : StrAt w A2 m) (hlen2 : m.length ≤ maxLen) (hsz2 : ∀ s ∈ m, s.size ≤ maxLen) :
    Calls Tryz.prog 3 #[.slice A l.length c, .slice A2 m.length c2] w fun e w' => e = .returned (.bool true) ∧ Below w.heap.size w w' := by
  have HSL2 := Lib.hid hsl2
  have HSZ2 := Lib.hid hsz2
  have HLOW2 := Lib.hid (texts_low hsl2)
  unfold maxLen at hlen2
  clear hsl2 hsz2
  have hlow := texts_low hsl
  go_enter Tryz.func3, Tryz.ntmps3
  have HPLAY := Lib.hid (playQ_any Bt w.heap.size (fun _ => False) l A c w hL hL.size (Nat.le_refl _) hsl hlow hlen hsz (fun _ h => h.elim))
  have HL := Lib.hid hL
  clear hL hsl hlen hsz hlow
  go_wp2_with fail
  refine HPLAY.out.mono ?_
  rintro e w1 ⟨g, rfl, hg, hd1, hb1⟩
  have hT : Solo w w1 Bt g (behind l) := ⟨hb1, HL.out.below (hb1.mono HL.out.size), Nat.le_trans HL.out.size hg, hg, hd1⟩
  clear HPLAY HL hd1 hb1 hg
  have hac := behind_acts l
  have HOK := Lib.hid (behind_ok l)
  obtain ⟨d, hd⟩ : ∃ d, behind l = d := ⟨_, rfl⟩
  rw [hd] at hT HOK hac
  obtain ⟨p, was, ac⟩ := d
  have HAC := Lib.hid (show ac ≤ 80 by dsimp only at hac; omega)
  clear hac hd
  have hp := HOK.out.now.good
  dsimp only at hp
  have hn := hp.now
  have HTB := Lib.hid (fun (W : World) (t : Solo w W Bt g ⟨p, was, ac⟩) => t.tell HOK.out ⟨#[98, 101, 103, 105, 110]⟩ (by decide) (by have := HAC.out; dsimp only; omega))
  have hlac : ac < 250 := by have := HAC.out; omega
  rw [show (⟨#[98, 101, 103, 105, 110]⟩ : ByteArray).data.toList = begT from rfl] at HTB
  cases was with
  | some q0 =>
    rw [tell_beg1 p q0 ac hlac] at HTB
    dsimp only at HTB
    go_wp2_with fail
    refine (HTB.out _ hT).mono ?_
    rintro e1 w3 ⟨rfl, hd3, ht3⟩
    have hB := (hT.told hd3 ht3).below
    clear hT hd3 ht3 HTB
    go_wp2_with fail
    go_ret
    exact ⟨rfl, hB⟩
  | none =>
    have hok1 : DOk ⟨p, some p, ac + 1⟩ := by have := (tell_ok begT HOK.out).1; rwa [tell_beg0 p ac hlac] at this
    rw [tell_beg0 p ac hlac] at HTB
    dsimp only at HTB
    have HPO := Lib.hid (fun (W : World) (t : Solo w W Bt g ⟨p, some p, ac + 1⟩) => portD_any _ g ⟨p, some p, ac + 1⟩ W t.one hp)
    have HPL := Lib.hid (fun (W : World) (t : Solo w W Bt g ⟨p, some p, ac + 1⟩) => planD_any _ g ⟨p, some p, ac + 1⟩ W t.one hp)
    dsimp only at HPO HPL
    have HOK1 := Lib.hid hok1
    have HGP := Lib.hid hp
    clear hok1 hp hlac
    go_wp2_with fail
    refine (HTB.out _ hT).mono ?_
    rintro e1 w3 ⟨rfl, hd3, ht3⟩
    have hT3 := hT.told hd3 ht3
    clear hT hd3 ht3 HTB
    go_wp2_with fail
    refine (HPO.out _ hT3).mono ?_
    rintro e1 w4 ⟨A5, c5, rfl, ho5, hb5⟩
    have hi5 : InP w4 p A5 := Sl.of_own ho5
    have hf5 := own_fr ho5
    have hg3 := hT3.one.lt
    have hT4 := hT3.go hb5
    have hz4 := hb5.size
    clear hT3 hb5 ho5 HPO
    go_wp2_with fail
    refine (HPL.out _ hT4).mono ?_
    rintro e1 w5 ⟨A4, c4, rfl, ho4, hb4⟩
    have h4 := Sl.of_own ho4
    have hf4 := (own_fr ho4).mono hz4
    have hi54 : InP w5 p A5 := Sl.below hi5 hb4
    have hT5 := hT4.go hb4
    have hg5 := hT5.one.lt
    clear hT4 hb4 ho4 HPL hi5
    obtain ⟨v2, v3, v4, v5, v6, v7, v8, v9, v10, v11, v12, v13, v14, v15, hv, hvo⟩ := port_twoS p A5 c5
    rw [hv]
    have HV := Lib.hid hv
    clear hv
    go_upto_region 7 with (refine wpList_store_box rfl rfl (by first | rfl | simp [Act.eval, Act.put]) (by first | rfl | simp [Act.eval, Act.put]) (BoxAt.new w5 _) rfl rfl hvo ?_; intro w6 hP6 hr6)
    have hb6 := fresh_below hr6
    obtain ⟨kp, hkp⟩ : ∃ kp, w5.heap.size = kp := ⟨_, rfl⟩
    rw [hkp] at hP6 hg5
    have hne : g ≠ kp := by omega
    have HST := Lib.hid (show UnAt w Bt g kp p ⟨p, some p, ac + 1⟩ A4 A5 #[.int .i64 p.now, .slice A5 p.ships.length c5, v2, v3, v4, v5, v6, v7, v8, v9, v10, v11, v12, v13, v14, v15] (ac + 1) w6 from
      ⟨hT5.go hb6, HOK1.out, rfl, Nat.le_refl _, hP6, Sl.below hi54 hb6, Sl.below h4 hb6⟩)
    try rw [hkp]
    clear hT5 hi54 h4 hb6 hr6 hvo hkp hP6 HOK1
    go_wp2_with fail
    go_loopw [9] (fun i wr => ∃ (k : Nat) (d : Desk), k ≤ m.length ∧ k ≤ 40 ∧ i = .int .i64 k ∧ UnAt w Bt g kp p d A4 A5 #[.int .i64 p.now, .slice A5 p.ships.length c5, v2, v3, v4, v5, v6, v7, v8, v9, v10, v11, v12, v13, v14, v15] (ac + 1 + k) wr) (fun i _ => 40 - (intOf i).toNat)
    case atStart => exact ⟨0, _, Nat.zero_le _, by omega, rfl, HST.out⟩
    case round =>
      obtain ⟨k, d, hk, hk40, rfl, hS⟩ := hrel
      clear HST
      by_cases hlt : k < m.length ∧ k < 40
      · obtain ⟨hlt1, hlt2⟩ := hlt
        obtain ⟨s, hs⟩ : ∃ s, m[k]? = some s := ⟨_, List.getElem?_eq_getElem hlt1⟩
        have hmem : s ∈ m := List.mem_of_getElem? hs
        obtain ⟨b, off, rfl, hbl, hcs⟩ := str_at HSL2.out (by omega)
        have hx0 : w.cell? ⟨b, off + k, none⟩ = some (.string s) := by rw [hcs k hlt1, List.getD_eq_getElem?_getD, hs]; rfl
        have HX := Lib.hid (fun (W : World) (hb : Below w.heap.size w W) => (hb.cell (p := ⟨b, off + k, none⟩) hbl).trans hx0)
        have hx := HX.out wr hS.solo.below
        have hsz := HSZ2.out s hmem
        have HPA := Lib.hid (fun (W : World) (h : LineAt Bt W) => parse_any Bt s W h hsz)
        have HTL := Lib.hid (fun (W : World) (t : UnAt w Bt g kp p d A4 A5 #[.int .i64 p.now, .slice A5 p.ships.length c5, v2, v3, v4, v5, v6, v7, v8, v9, v10, v11, v12, v13, v14, v15] (ac + 1 + k) W) => t.solo.tell t.ok s hsz (by have := t.acts; have := HAC.out; omega))
        have HTW := Lib.hid (tell_was d s.data.toList)
        have HTO := Lib.hid (tell_ok s.data.toList hS.ok).1
        have hwas := hS.was
        have hacts := hS.acts
        have HWAS := Lib.hid hwas
        obtain ⟨r, hr⟩ : ∃ r, parseL s.data.toList = r := ⟨_, rfl⟩
        rw [hr] at HPA HTW
        obtain ⟨CC, hCC⟩ : ∃ CC, (tellD d s.data.toList).2.1 = CC := ⟨_, rfl⟩
        obtain ⟨NN, hNN⟩ : ∃ NN, (tellD d s.data.toList).2.2 = NN := ⟨_, rfl⟩
        obtain ⟨dn, hdn⟩ : ∃ dn, (tellD d s.data.toList).1 = dn := ⟨_, rfl⟩
        rw [hCC, hNN, hdn] at HTL
        rw [hdn] at HTW HTO
        have hwl := hS.solo.below.size
        clear hs hmem hcs hx0 hr hCC hNN hdn hwas
        go_wp2_with fail
        refine (HPA.out _ hS.solo.line).mono ?_
        rintro e1 w7 ⟨rfl, hb7⟩
        have hb8 : Below wr.heap.size wr (w7.alloc (.cells (ordA (oOf r)) 41)) := hb7.trans ((Below.refl _ _).alloc hb7.size _)
        have hS8 := hS.go hb8
        simp only [ordA] at hS8 ⊢
        have hx8 := HX.out _ hS8.solo.below
        clear hS hb7 hb8 hx HPA
        cases r with
        | none =>
          have HW2 := Lib.hid (HTW.out (fun o h => by cases h))
          simp only [oOf, eOf, Option.getD_none, Option.isSome_none, noO] at hS8 hx8 ⊢
          clear HTW
          go_upto_region 11 with (fail)
          obtain ⟨W8, hW8⟩ : ∃ W8, W8 = w7.alloc (.cells #[.int .i64 0, .int .i64 0, .int .i64 0, .int .i64 0] 41) := ⟨_, rfl⟩
          rw [← hW8] at hS8 hx8 ⊢
          clear hW8
          go_wp2_with fail
          refine (HTL.out _ hS8).mono ?_
          rintro e1 w9 ⟨rfl, hd9, ht9⟩
          have HS9 := Lib.hid (hS8.told hd9 ht9 hne hf4 hf5 hg3 HTO.out (HW2.out.1.trans HWAS.out) (by have := HW2.out.2; omega))
          clear hS8 hd9 ht9 hx8
          go_wp2_with fail
          go_roundw
          case rel => exact ⟨k + 1, dn, by omega, by omega, by go_num, HS9.out⟩
          case measure => simp [intOf] <;> omega
        | some o =>
          obtain ⟨kd, oa, ob, oc⟩ := o
          simp only [oOf, eOf, Option.getD_some, Option.isSome_some, if_true] at hS8 hx8 ⊢
          have HO8 := Lib.hid (OrdAt.new w7 ⟨kd, oa, ob, oc⟩)
          go_upto_region 11 with (fail)
          obtain ⟨W8, hW8⟩ : ∃ W8, W8 = w7.alloc (.cells #[.int .i64 kd, .int .i64 oa, .int .i64 ob, .int .i64 oc] 41) := ⟨_, rfl⟩
          obtain ⟨ko, hko⟩ : ∃ ko, w7.heap.size = ko := ⟨_, rfl⟩
          have e0 : W8.cell? ⟨ko, 0, none⟩ = some (.int .i64 kd) := by rw [hW8, ← hko]; exact OrdAt.cell0 HO8.out
          rw [← hW8] at hS8 hx8 ⊢
          try rw [hko]
          clear hW8 hko HO8
          have HSK := Lib.hid (show UnAt w Bt g kp p d A4 A5 #[.int .i64 p.now, .slice A5 p.ships.length c5, v2, v3, v4, v5, v6, v7, v8, v9, v10, v11, v12, v13, v14, v15] (ac + 1 + (k + 1)) W8 from ⟨hS8.solo, hS8.ok, hS8.was, by have := hS8.acts; omega, hS8.box, hS8.inP, hS8.plan⟩)
          by_cases h10 : kd = 10
          · subst h10
            clear hS8 HTW HTL
            go_wp2_with fail
            go_roundw
            case rel => exact ⟨k + 1, d, by omega, by omega, by go_num, HSK.out⟩
            case measure => simp [intOf] <;> omega
          by_cases h11 : kd = 11
          · subst h11
            clear hS8 HTW HTL h10
            go_wp2_with fail
            go_roundw
            case rel => exact ⟨k + 1, d, by omega, by omega, by go_num, HSK.out⟩
            case measure => simp [intOf] <;> omega
          by_cases h12 : kd = 12
          · subst h12
            clear hS8 HTW HTL h10 h11
            go_wp2_with fail
            go_roundw
            case rel => exact ⟨k + 1, d, by omega, by omega, by go_num, HSK.out⟩
            case measure => simp [intOf] <;> omega
          have HW2 := Lib.hid (HTW.out (fun o h => by injection h with h; subst h; exact ⟨h10, h11, h12⟩))
          have n1 : (kd == 10) = false := by simpa using h10
          have n2 : (kd == 11) = false := by simpa using h11
          have n3 : (kd == 12) = false := by simpa using h12
          clear HTW HSK h10 h11 h12
          go_wp2_with fail
          refine (HTL.out _ hS8).mono ?_
          rintro e1 w9 ⟨rfl, hd9, ht9⟩
          have HS9 := Lib.hid (hS8.told hd9 ht9 hne hf4 hf5 hg3 HTO.out (HW2.out.1.trans HWAS.out) (by have := HW2.out.2; omega))
          clear hS8 hd9 ht9 hx8 e0
          go_wp2_with fail
          go_roundw
          case rel => exact ⟨k + 1, dn, by omega, by omega, by go_num, HS9.out⟩
          case measure => simp [intOf] <;> omega
      · have hac2 := hS.acts
        have hok := hS.ok
        have hwas := hS.was
        obtain ⟨pd, wasd, acd⟩ := d
        dsimp only at hac2 hwas
        subst hwas
        have hl1 : acd < 249 := by have := HAC.out; omega
        have HT1 := Lib.hid (fun (W : World) (t : Solo w W Bt g ⟨pd, some p, acd⟩) => t.tell hok ⟨#[117, 110, 100, 111]⟩ (by decide) (by dsimp only; omega))
        have hok2 : DOk ⟨p, none, acd + 1⟩ := by have := (tell_ok undT hok).1; rwa [tell_und1 pd p acd (by omega)] at this
        have HT2 := Lib.hid (fun (W : World) (t : Solo w W Bt g ⟨p, none, acd + 1⟩) => t.tell hok2 ⟨#[117, 110, 100, 111]⟩ (by decide) (by dsimp only; omega))
        rw [show (⟨#[117, 110, 100, 111]⟩ : ByteArray).data.toList = undT from rfl] at HT1 HT2
        rw [tell_und1 pd p acd (by omega)] at HT1
        rw [tell_und0 p (acd + 1) (by omega)] at HT2
        dsimp only at HT1 HT2
        have HPO := Lib.hid (fun (W : World) (t : Solo w W Bt g ⟨p, none, acd + 1⟩) => portD_any _ g ⟨p, none, acd + 1⟩ W t.one HGP.out)
        have HPL := Lib.hid (fun (W : World) (t : Solo w W Bt g ⟨p, none, acd + 1⟩) => planD_any _ g ⟨p, none, acd + 1⟩ W t.one HGP.out)
        dsimp only at HPO HPL
        have HSP := Lib.hid (fun A B c d w h1 h2 => samePortT_any p A B c d w h1 h2 (by have := HGP.out.len; omega))
        have HSI := Lib.hid (fun A B c d w h1 h2 => sameIntsT_any (thePlan p) (thePlan p) A B c d w h1 h2 (by rw [plan_len HGP.out]; have := HGP.out.len; omega) (by rw [plan_len HGP.out]; have := HGP.out.len; omega))
        obtain ⟨hSs, -, -, -, hSb, hSi, hSp⟩ := hS
        clear hac2 hok hok2 hn
        have hcase : ¬ k < m.length ∨ (k < m.length ∧ 40 ≤ k) := by omega
        clear hlt
        rcases hcase with hcs | ⟨hcs, hcs2⟩
        all_goals
          go_wp2_with fail
          refine wp_region_plans (S := fun w' => BoxAt w' kp #[.int .i64 p.now, .slice A5 p.ships.length c5, v2, v3, v4, v5, v6, v7, v8, v9, v10, v11, v12, v13, v14, v15]) (.take 0 (.one 1 (.take 2 (.take 3 (.take 4 (.take 5 (.take 7 (.one 6 (.one 8 (.take 9 (.take 10 (.take 11 (.take 13 (.one 12 (.one 14 (.take 15 (.take 16 (.take 17 (.one 18 (.take 19 (.take 20 (.take 21 (.take 22 (.fin)))))))))))))))))))))))) (by kernel_rfl) (by kernel_rfl) hSb ?_
          refine plan_take (v := ?_) rfl (by rfl) (fun w' hw' => ?_) ?_
          rotate_left
          · go_simp; try with_reducible rfl
          try simp only [Act.put, List.getElem_toArray, List.getElem_cons_zero, List.getElem_cons_succ, List.setIfInBounds_toArray, List.set_cons_zero, List.set_cons_succ]
          refine plan_one rfl (by rfl) fun K hK => ?_
          go_simp
          go_at_call 11
          refine (HT1.out _ (hSs.go (Below.refl _ _).drew)).mono ?_
          rintro e1 w7 ⟨rfl, hd7, ht7⟩
          have hS7 := (hSs.go (Below.refl _ _).drew).told hd7 ht7
          have ht7' : Tn g wr w7 := ⟨ht7.os, ht7.tape, ht7.output, ht7.size, ht7.block⟩
          have hb7 := BoxAt.tn hSb hne ht7'
          have hi7 : InP w7 p A5 := sl_tn hSi hf5 hg3 ht7'
          have hp7 := sl_tn hSp hf4 hg3 ht7'
          refine hK.out _ _ hb7 ?_
          clear hK K hd7 ht7 ht7' hSs hSb hSi hSp HT1
          try simp only [Act.put, List.getElem_toArray, List.getElem_cons_zero, List.getElem_cons_succ, List.setIfInBounds_toArray, List.set_cons_zero, List.set_cons_succ]
          refine plan_take (v := ?_) rfl (by rfl) (fun w' hw' => ?_) ?_
          rotate_left
          · go_simp; try with_reducible rfl
          try simp only [Act.put, List.getElem_toArray, List.getElem_cons_zero, List.getElem_cons_succ, List.setIfInBounds_toArray, List.set_cons_zero, List.set_cons_succ]
          refine plan_take (v := ?_) rfl (by rfl) (fun w' hw' => ?_) ?_
          rotate_left
          · go_simp; try with_reducible rfl
          try simp only [Act.put, List.getElem_toArray, List.getElem_cons_zero, List.getElem_cons_succ, List.setIfInBounds_toArray, List.set_cons_zero, List.set_cons_succ]
          refine plan_take (v := ?_) rfl (by rfl) (fun w' hw' => ?_) ?_
          rotate_left
          · go_simp; try with_reducible rfl
          try simp only [Act.put, List.getElem_toArray, List.getElem_cons_zero, List.getElem_cons_succ, List.setIfInBounds_toArray, List.set_cons_zero, List.set_cons_succ]
          refine plan_take (v := ?_) rfl (by rfl) (fun w' hw' => ?_) ?_
          rotate_left
          · go_simp; try with_reducible rfl
          try simp only [Act.put, List.getElem_toArray, List.getElem_cons_zero, List.getElem_cons_succ, List.setIfInBounds_toArray, List.set_cons_zero, List.set_cons_succ]
          refine plan_take rfl (by rfl) (fun w' hw' => exec_load_bx rfl rfl hw' rfl) ?_
          try simp only [Act.put, List.getElem_toArray, List.getElem_cons_zero, List.getElem_cons_succ, List.setIfInBounds_toArray, List.set_cons_zero, List.set_cons_succ]
          refine plan_one rfl (by rfl) fun K hK => ?_
          go_simp
          go_at_call 12
          refine (HPO.out _ hS7).mono ?_
          rintro e1 w8 ⟨A8, c8, rfl, ho8, hb8⟩
          have hi8 : InP w8 p A8 := Sl.of_own ho8
          have hi78 : InP w8 p A5 := Sl.below hi7 hb8
          have hp8 := hp7.below hb8
          have hS8 := hS7.go hb8
          have hb8' := hb7.below hb8 hb7.lt
          refine hK.out _ _ hb8' ?_
          clear hK K hS7 hb7 hi7 hp7 hb8 ho8 HPO
          try simp only [Act.put, List.getElem_toArray, List.getElem_cons_zero, List.getElem_cons_succ, List.setIfInBounds_toArray, List.set_cons_zero, List.set_cons_succ]
          refine plan_one rfl (by rfl) fun K hK => ?_
          go_simp
          go_at_call 15
          rw [← HV.out]
          refine (HSP.out A8 A5 c8 c5 _ hi8 hi78).mono ?_
          rintro e1 w9 ⟨rfl, hb9⟩
          have hp9 := hp8.below hb9
          have hS9 := hS8.go hb9
          have hb9' := hb8'.below hb9 hb8'.lt
          refine hK.out _ _ hb9' ?_
          clear hK K hS8 hb8' hi8 hi78 hp8 hb9 HSP
          try simp only [Act.put, List.getElem_toArray, List.getElem_cons_zero, List.getElem_cons_succ, List.setIfInBounds_toArray, List.set_cons_zero, List.set_cons_succ]
          refine plan_take (v := ?_) rfl (by rfl) (fun w' hw' => ?_) ?_
          rotate_left
          · go_simp; try with_reducible rfl
          try simp only [Act.put, List.getElem_toArray, List.getElem_cons_zero, List.getElem_cons_succ, List.setIfInBounds_toArray, List.set_cons_zero, List.set_cons_succ]
          refine plan_take (v := ?_) rfl (by rfl) (fun w' hw' => ?_) ?_
          rotate_left
          · go_simp; try with_reducible rfl
          try simp only [Act.put, List.getElem_toArray, List.getElem_cons_zero, List.getElem_cons_succ, List.setIfInBounds_toArray, List.set_cons_zero, List.set_cons_succ]
          refine plan_take (v := ?_) rfl (by rfl) (fun w' hw' => ?_) ?_
          rotate_left
          · go_simp; try with_reducible rfl
          try simp only [Act.put, List.getElem_toArray, List.getElem_cons_zero, List.getElem_cons_succ, List.setIfInBounds_toArray, List.set_cons_zero, List.set_cons_succ]
          refine plan_take (v := ?_) rfl (by rfl) (fun w' hw' => ?_) ?_
          rotate_left
          · go_simp; try with_reducible rfl
          try simp only [Act.put, List.getElem_toArray, List.getElem_cons_zero, List.getElem_cons_succ, List.setIfInBounds_toArray, List.set_cons_zero, List.set_cons_succ]
          refine plan_one rfl (by rfl) fun K hK => ?_
          go_simp
          go_at_call 13
          refine (HPL.out _ hS9).mono ?_
          rintro e1 w10 ⟨A10, c10, rfl, ho10, hb10⟩
          have h10 := Sl.of_own ho10
          have hp10 := hp9.below hb10
          have hS10 := hS9.go hb10
          have hb10' := hb9'.below hb10 hb9'.lt
          refine hK.out _ _ hb10' ?_
          clear hK K hS9 hb9' hp9 hb10 ho10 HPL
          try simp only [Act.put, List.getElem_toArray, List.getElem_cons_zero, List.getElem_cons_succ, List.setIfInBounds_toArray, List.set_cons_zero, List.set_cons_succ]
          refine plan_one rfl (by rfl) fun K hK => ?_
          go_simp
          go_at_call 16
          refine (HSI.out A10 A4 c10 c4 _ h10 hp10).mono ?_
          rintro e1 w11 ⟨rfl, hb11⟩
          first | rw [show decide (thePlan p = thePlan p) = true by simp] | simp only [decide_true]
          have hS11 := hS10.go hb11
          have hb11' := hb10'.below hb11 hb10'.lt
          refine hK.out _ _ hb11' ?_
          clear hK K hS10 hb10' hp10 h10 hb11 HSI
          try simp only [Act.put, List.getElem_toArray, List.getElem_cons_zero, List.getElem_cons_succ, List.setIfInBounds_toArray, List.set_cons_zero, List.set_cons_succ]
          refine plan_take (v := ?_) rfl (by rfl) (fun w' hw' => ?_) ?_
          rotate_left
          · go_simp; try with_reducible rfl
          try simp only [Act.put, List.getElem_toArray, List.getElem_cons_zero, List.getElem_cons_succ, List.setIfInBounds_toArray, List.set_cons_zero, List.set_cons_succ]
          refine plan_take (v := ?_) rfl (by rfl) (fun w' hw' => ?_) ?_
          rotate_left
          · go_simp; try with_reducible rfl
          try simp only [Act.put, List.getElem_toArray, List.getElem_cons_zero, List.getElem_cons_succ, List.setIfInBounds_toArray, List.set_cons_zero, List.set_cons_succ]
          refine plan_take (v := ?_) rfl (by rfl) (fun w' hw' => ?_) ?_
          rotate_left
          · go_simp; try with_reducible rfl
          try simp only [Act.put, List.getElem_toArray, List.getElem_cons_zero, List.getElem_cons_succ, List.setIfInBounds_toArray, List.set_cons_zero, List.set_cons_succ]
          refine plan_one rfl (by rfl) fun K hK => ?_
          go_simp
          go_at_call 11
          refine (HT2.out _ hS11).mono ?_
          rintro e1 w12 ⟨rfl, hd12, ht12⟩
          have hB := (hS11.told hd12 ht12).below
          have hb12' := BoxAt.tn hb11' hne ht12
          refine hK.out _ _ hb12' ?_
          clear hK K hS11 hb11' hd12 ht12 HT2 hb12'
          try simp only [Act.put, List.getElem_toArray, List.getElem_cons_zero, List.getElem_cons_succ, List.setIfInBounds_toArray, List.set_cons_zero, List.set_cons_succ]
          refine plan_take (v := ?_) rfl (by rfl) (fun w' hw' => ?_) ?_
          rotate_left
          · go_simp; try with_reducible rfl
          try simp only [Act.put, List.getElem_toArray, List.getElem_cons_zero, List.getElem_cons_succ, List.setIfInBounds_toArray, List.set_cons_zero, List.set_cons_succ]
          refine plan_take (v := ?_) rfl (by rfl) (fun w' hw' => ?_) ?_
          rotate_left
          · go_simp; try with_reducible rfl
          try simp only [Act.put, List.getElem_toArray, List.getElem_cons_zero, List.getElem_cons_succ, List.setIfInBounds_toArray, List.set_cons_zero, List.set_cons_succ]
          refine plan_take (v := ?_) rfl (by rfl) (fun w' hw' => ?_) ?_
          rotate_left
          · go_simp; try with_reducible rfl
          try simp only [Act.put, List.getElem_toArray, List.getElem_cons_zero, List.getElem_cons_succ, List.setIfInBounds_toArray, List.set_cons_zero, List.set_cons_succ]
          refine plan_take (v := ?_) rfl (by rfl) (fun w' hw' => ?_) ?_
          rotate_left
          · go_simp; try with_reducible rfl
          try simp only [Act.put, List.getElem_toArray, List.getElem_cons_zero, List.getElem_cons_succ, List.setIfInBounds_toArray, List.set_cons_zero, List.set_cons_succ]
          refine plan_done (NoPanic.normal ?_)
          go_wp2_with fail
          go_ret
          exact ⟨rfl, hB⟩
end Go.Proofs.YtifmdkcpbajdcabGreatDoor

/- Walks: whoever has come in while one waited has come in when it was planned: the look, and the law. -/
import Derived.Test.YtifmdkcpbajdcaaGreatDoorPlayStarts
import Derived.Deep.DeepCutAuto
import Derived.BigQuiet
set_option linter.unusedVariables false
set_option linter.unusedSimpArgs false
namespace Go.Proofs.YtifmdkcpbajdcaaGreatDoor
open Go.RowKit Go.Proofs Plain

theorem port_twoX (p : Port) (A : Option Addr) (c : Nat) : ∃ v2 v3 v4 v5 v6 v7 v8 v9 v10 v11 v12 v13 v14 v15 : Value, portA p A c = #[.int .i64 p.now, .slice A p.ships.length c, v2, v3, v4, v5, v6, v7, v8, v9, v10, v11, v12, v13, v14, v15] ∧
    (#[.int .i64 p.now, .slice A p.ships.length c, v2, v3, v4, v5, v6, v7, v8, v9, v10, v11, v12, v13, v14, v15] : Array Value).all (·.oneCell') = true := ⟨_, _, _, _, _, _, _, _, _, _, _, _, _, _, rfl, portA_one p A c⟩
theorem sl_frX {w : World} {base size n c : Nat} {E : TypeId} {A : Option Addr} {xs : List Value} (h : w.ownsRow base E size (.slice A n c) n xs) : Fr base A := fun x hx => by
  subst hx
  exact own_blockT h x.block rfl
theorem Kp.then_one {M : Nat → Prop} {w w' w2 : World} {g : Nat} (h : Kp M w w') (k : OneRow g w' w2) (hg : M g) : Kp M w w2 :=
  ⟨k.os.trans h.os, k.tape.trans h.tape, k.output.trans h.output, by rw [k.size]; exact h.size, fun i hi hn => (k.block i (fun e => hn (by rw [e]; exact hg))).trans (h.block i hi hn)⟩

/-- The captured variables: the ships and the plan as they were. -/
def WasAt (G : Nat → Prop) (kw kl : Nat) (q : Port) (w : World) : Prop :=
  ∃ A c B cB, ∃ vs : Array Value, vs.size = 16 ∧ vs[1]? = some (.slice A q.ships.length c) ∧ BoxAt w kw vs ∧ w.heap[kl]? = some (.cells #[.slice B (thePlan q).length cB] 36 (0, 0)) ∧ Row w G 6 A q.ships.length (shipCells q.ships) ∧ Row w G 1 B (thePlan q).length ((thePlan q).map (Value.int .i64))

/-- What the look leans on. -/
structure StAt (w : World) (G : Nat → Prop) (g kw kl kp : Nat) (d : Desk) (q : Port) (Aw Bw A5 : Option Addr) (vsW vsP : Array Value) (pv : Value) (wr : World) : Prop where
  below : Below w.heap.size w wr
  desk : DeskAt wr G g d
  boxW : BoxAt wr kw vsW
  boxL : wr.heap[kl]? = some (.cells #[pv] 36 (0, 0))
  boxP : BoxAt wr kp vsP
  inW : InP wr q Aw
  plW : Sl wr 1 Bw (thePlan q).length ((thePlan q).map (Value.int .i64))
  inP : InP wr d.p A5
theorem StAt.go {w : World} {G : Nat → Prop} {g kw kl kp : Nat} {d : Desk} {q : Port} {Aw Bw A5 : Option Addr} {vsW vsP : Array Value} {pv : Value} {wr W : World} (h : StAt w G g kw kl kp d q Aw Bw A5 vsW vsP pv wr) (hb : Below wr.heap.size wr W) : StAt w G g kw kl kp d q Aw Bw A5 vsW vsP pv W :=
  ⟨below_go h.below hb, h.desk.below hb, h.boxW.below hb h.boxW.lt, (hb.block kl (Array.getElem?_eq_some_iff.1 h.boxL).1).trans h.boxL, h.boxP.below hb h.boxP.lt, Sl.below h.inW hb, Sl.below h.plW hb, Sl.below h.inP hb⟩
theorem StAt.cellL {w : World} {G : Nat → Prop} {g kw kl kp : Nat} {d : Desk} {q : Port} {Aw Bw A5 : Option Addr} {vsW vsP : Array Value} {pv : Value} {wr : World} (h : StAt w G g kw kl kp d q Aw Bw A5 vsW vsP pv wr) : wr.cell? ⟨kl, 0, none⟩ = some pv := by rw [cell_of_row wr kl 0 _ _ _ h.boxL]; rfl
theorem below_fact {w w' : World} (h : Below w.heap.size w w') {x : Addr} {v : Value} (hc : w.cell? x = some v) : w'.cell? x = some v := by
  rw [h.cell (World.block_lt_of_cell? w x hc)]; exact hc
theorem slot_set {w : World} {k : Nat} {u v : Value} {T : TypeId} (h : w.heap[k]? = some (.cells #[u] T (0, 0))) : (w.setCell ⟨k, 0, none⟩ v).heap[k]? = some (.cells #[v] T (0, 0)) := by
  rw [setCell_eq_setRow w k 0 _ _ _ _ h]; exact setRow_heap w k _ _ _ _ h

/-- What a wait makes of those that waited. -/
def Waited (q p : Port) : Prop := p.ships.length = q.ships.length ∧ ∀ i, i < q.ships.length → (q.ship i).state = 1 → ((p.ship i).state = 3 → (p.ship i).since = (thePlan q).getD i (-1)) ∧ ((p.ship i).state = 1 → (thePlan p).getD i (-1) = (thePlan q).getD i (-1))
theorem waited_tell {d : Desk} {s : Txt} {o : Order} (hk : DOk d) (hp : parseL s = some o) (h9 : o.kind = 9) (h0 : (tellD d s).2.1 = 0) : Waited d.p (tellD d s).1.p := by
  unfold tellD at h0 ⊢
  by_cases ha : 250 ≤ d.acts
  · rw [if_pos ha] at h0; simp at h0
  rw [if_neg ha, hp] at h0 ⊢
  dsimp only at h0 ⊢
  unfold actL at h0 ⊢
  rw [if_pos h9] at h0 ⊢
  by_cases hr : o.a < 1 ∨ 300 - d.p.now ≤ o.a
  · rw [if_pos hr] at h0; simp at h0
  rw [if_neg hr]
  dsimp only
  have hn : d.p.now + (o.a.toNat : Int) < 300 := by omega
  exact ⟨(wait_settled _ hk.now hn).2.1, fun i hi hs => wait_starts _ hk.now hn i hi hs⟩

set_option maxRecDepth 100000 in
set_option maxHeartbeats 32000000 in
theorem startsLook_any (Bt : Nat) (G : Nat → Prop) (g kw kl : Nat) (d0 : Desk) (s : ByteArray) (w : World) (hD : DeskAt w G g (tellD d0 s.data.toList).1) (hok : DOk d0) (hL : LineAt Bt w) (hsz : s.size ≤ maxLen) (hG : G kw ∧ G kl) (hne : g ≠ kw ∧ g ≠ kl ∧ kw ≠ kl) (hI : WasAt G kw kl d0.p w) :
    Calls Tryz.prog 11 #[.pointer (some ⟨g, 0, none⟩), .string s, .agg #[.int .i64 (tellD d0 s.data.toList).2.1, .int .i64 (tellD d0 s.data.toList).2.2], .pointer (some ⟨kw, 0, none⟩), .pointer (some ⟨kl, 0, none⟩)] w
      fun e w' => e = .returned (.bool true) ∧ Kp (fun b => b = kw ∨ b = kl) w w' ∧ WasAt G kw kl (tellD d0 s.data.toList).1.p w' := by
  have hok1 := (tell_ok s.data.toList hok).1
  have HPA := Lib.hid (fun (W : World) (h : LineAt Bt W) => parse_any Bt s W h hsz)
  have HWT := Lib.hid (fun o (h1 : parseL s.data.toList = some o) h2 h3 => waited_tell hok h1 h2 h3)
  obtain ⟨q, hq⟩ : ∃ q, d0.p = q := ⟨_, rfl⟩
  have hqg := hok.now.good
  rw [hq] at HWT hI hqg
  obtain ⟨CC, hCC⟩ : ∃ CC, (tellD d0 s.data.toList).2.1 = CC := ⟨_, rfl⟩
  obtain ⟨NN, hNN⟩ : ∃ NN, (tellD d0 s.data.toList).2.2 = NN := ⟨_, rfl⟩
  obtain ⟨d, hd⟩ : ∃ d, (tellD d0 s.data.toList).1 = d := ⟨_, rfl⟩
  obtain ⟨r, hr⟩ : ∃ r, parseL s.data.toList = r := ⟨_, rfl⟩
  rw [hCC, hd, hr] at HWT
  rw [hd] at hok1 hD ⊢
  rw [hr] at HPA
  rw [hCC, hNN]
  have hg := hok1.now.good
  have hlen14 := hg.len
  have HQL := Lib.hid (plan_len hqg)
  have hq14 := hqg.len
  have HPO := Lib.hid (fun (W : World) (t : DeskAt W G g d) => portD_any G g d W t hg)
  have HPL := Lib.hid (fun (W : World) (t : DeskAt W G g d) => planD_any G g d W t hg)
  have HPN := Lib.hid (plan_len hg)
  clear hok hok1 hq hCC hNN hd hr hg hqg
  obtain ⟨Aw, cw, Bw, cBw, VW, hVW, hV1, hW2, hLw, hrA, hrB⟩ := hI
  have HVW := Lib.hid hVW
  have HV1 := Lib.hid hV1
  have HALL := Lib.hid hD.all
  obtain ⟨hn1, hn2, hn3⟩ := hne
  have HGG := Lib.hid hG
  have hb0 : Below w.heap.size w (w.alloc (.cells #[.int .i64 CC, .int .i64 NN] 28)) := (Below.refl _ _).alloc (Nat.le_refl _) _
  have hR0 := RpAt.new w CC NN
  have hD0 := hD.below hb0
  have HL := Lib.hid hL
  have HW := Lib.hid hW2
  have HLw := Lib.hid hLw
  have HrA := Lib.hid hrA.1
  have HrB := Lib.hid hrB.1
  have hlw := hW2.lt
  have hll : kl < w.heap.size := (Array.getElem?_eq_some_iff.1 hLw).1
  clear hW2 hLw hrA hrB hD hL hG hVW hV1
  go_enter Tryz.func11, Tryz.ntmps11
  go_wp2_with fail
  refine (HPO.out _ hD0).mono ?_
  rintro e w1 ⟨A5, c5, rfl, ho5, hb1⟩
  have hi1 : InP w1 d.p A5 := Sl.of_own ho5
  have hf5 : Fr w.heap.size A5 := (sl_frX ho5).mono hb0.size
  have hD1 := hD0.below hb1
  have hB1 := below_go hb0 hb1
  have hR1 := hR0.below hb1 hR0.lt
  obtain ⟨v2, v3, v4, v5, v6, v7, v8, v9, v10, v11, v12, v13, v14, v15, hv, hvo⟩ := port_twoX d.p A5 c5
  rw [hv]
  have HVO := Lib.hid hvo
  clear hv ho5 hb0 hD0 hR0 hb1 HPO
  go_upto_region 2 with (refine wpList_store_box rfl rfl (by first | rfl | simp [Act.eval, Act.put]) (by first | rfl | simp [Act.eval, Act.put]) (BoxAt.new w1 _) rfl rfl hvo ?_; intro w2 hP2 hr2)
  have hb2 : Below w1.heap.size w1 w2 := ((Below.refl _ _).alloc (Nat.le_refl _) _).trans (hr2.below (Nat.le_refl _))
  have hB2 := below_go hB1 hb2
  have hR2 := hR1.below hb2 hR1.lt
  obtain ⟨kp, hkp⟩ : ∃ kp, w1.heap.size = kp := ⟨_, rfl⟩
  have HS2 := Lib.hid (show StAt w G g kw kl kp d q Aw Bw A5 VW #[.int .i64 d.p.now, .slice A5 d.p.ships.length c5, v2, v3, v4, v5, v6, v7, v8, v9, v10, v11, v12, v13, v14, v15] (.slice Bw (thePlan q).length cBw) w2 from
    ⟨hB2, hD1.below hb2, HW.out.below hB2 HW.out.lt, (hB2.block kl hll).trans HLw.out, by rw [← hkp]; exact hP2, Sl.below HrA.out hB2, Sl.below HrB.out hB2, Sl.below hi1 hb2⟩)
  have hkpl : w.heap.size ≤ kp := by rw [← hkp]; exact hB1.size
  try rw [hkp]
  clear hi1 hD1 hB1 hR1 hvo hP2 hr2 hb2 hB2 hkp
  go_wp2_with fail
  refine (HPA.out _ (HL.out.below (HS2.out.below.mono HL.out.size))).mono ?_
  rintro e w3 ⟨rfl, hb3⟩
  have HS3 := Lib.hid (HS2.out.go hb3)
  have hR3 := hR2.below hb3 hR2.lt
  have hw3 := HS3.out.below.size
  clear HS2 hR2 hb3 HPA
  have HWA := Lib.hid (show eOf r = 0 → (oOf r).kind = 9 → CC = 0 → Waited q d.p from fun h1 h2 h3 => by
    cases r with
    | none => simp [eOf] at h1
    | some o => exact HWT.out o rfl h2 h3)
  obtain ⟨E, hE⟩ : ∃ E, eOf r = E := ⟨_, rfl⟩
  obtain ⟨O, hO⟩ : ∃ O, oOf r = O := ⟨_, rfl⟩
  rw [hE, hO] at HWA ⊢
  obtain ⟨K9, ka, kb, kc⟩ := O
  dsimp only at HWA
  simp only [ordA]
  clear hE hO HWT
  go_upto_region 3 with (fail)
  have hRk := hR3.lt
  have hO4 := OrdAt.new w3 ⟨K9, ka, kb, kc⟩
  have hR4 := hR3.alloc (.cells #[.int .i64 K9, .int .i64 ka, .int .i64 kb, .int .i64 kc] 47)
  have HS4 := Lib.hid (HS3.out.go ((Below.refl _ _).alloc (Nat.le_refl _) (.cells #[.int .i64 K9, .int .i64 ka, .int .i64 kb, .int .i64 kc] 47)))
  simp only [ordA] at hO4
  obtain ⟨w4, hw4⟩ : ∃ w4, w4 = w3.alloc (.cells #[.int .i64 K9, .int .i64 ka, .int .i64 kb, .int .i64 kc] 47) := ⟨_, rfl⟩
  obtain ⟨ko, hko⟩ : ∃ ko, w3.heap.size = ko := ⟨_, rfl⟩
  rw [hko] at hO4
  try rw [hko]
  rw [← hw4] at hR4 HS4 hO4
  rw [← hw4]
  have x0 := hR4.cell0
  have o0 : w4.cell? ⟨ko, 0, none⟩ = some (.int .i64 K9) := OrdAt.cell0 (o := ⟨K9, ka, kb, kc⟩) hO4
  have hw4s := HS4.out.below.size
  clear hw4 hko HS3 hR3 hR4 hO4
  go_cut [32] (fun x32 wq => x32 = .bool (decide (E = 0 ∧ K9 = 9 ∧ CC = 0)) ∧ wq = w4)
  case first => as_aux_lemma =>
    by_cases h1 : E = 0
    · subst h1
      by_cases h2 : K9 = 9
      · subst h2
        by_cases h3 : CC = 0
        · subst h3
          go_wp2_with fail
          go_meet
          exact ⟨by simp, rfl⟩
        · have n3 : (CC == 0) = false := by simpa using h3
          have H3 := Lib.hid h3
          clear h3
          go_wp2_with fail
          go_meet
          exact ⟨by simp [H3.out], rfl⟩
      · have n2 : (K9 == 9) = false := by simpa using h2
        have H2 := Lib.hid h2
        clear h2
        go_wp2_with fail
        go_meet
        exact ⟨by simp [H2.out], rfl⟩
    · have n1 : (E == 0) = false := by simpa using h1
      have H1 := Lib.hid h1
      clear h1
      go_wp2_with fail
      go_meet
      exact ⟨by simp [H1.out], rfl⟩
  obtain ⟨rfl, rfl⟩ := hcut
  clear x0 o0
  go_upto_if 32 with (fail)
  go_cut [12] (fun _ wq => StAt w G g kw kl kp d q Aw Bw A5 VW #[.int .i64 d.p.now, .slice A5 d.p.ships.length c5, v2, v3, v4, v5, v6, v7, v8, v9, v10, v11, v12, v13, v14, v15] (.slice Bw (thePlan q).length cBw) wq)
  case first => as_aux_lemma =>
    by_cases hB : E = 0 ∧ K9 = 9 ∧ CC = 0
    · have hwt := HWA.out hB.1 hB.2.1 hB.2.2
      obtain ⟨hwl, hws⟩ := hwt
      rw [show decide (E = 0 ∧ K9 = 9 ∧ CC = 0) = true by simpa using hB]
      have HWS := Lib.hid hws
      have HLN := Lib.hid hwl
      have q5 : wc.cell? ⟨kp, 1, none⟩ = some (.slice A5 d.p.ships.length c5) := HS4.out.boxP.cell 1
      clear hB hwl hws HWA
      go_wp2_with fail
      clear q5
      go_loopw [36] (fun i wr => ∃ k : Nat, k ≤ d.p.ships.length ∧ i = .int .i64 k ∧ StAt w G g kw kl kp d q Aw Bw A5 VW #[.int .i64 d.p.now, .slice A5 d.p.ships.length c5, v2, v3, v4, v5, v6, v7, v8, v9, v10, v11, v12, v13, v14, v15] (.slice Bw (thePlan q).length cBw) wr) (fun i _ => d.p.ships.length - (intOf i).toNat)
      case atStart => exact ⟨0, Nat.zero_le _, rfl, HS4.out⟩
      case round =>
        obtain ⟨k, hk, rfl, hS⟩ := hrel
        clear HS4
        by_cases hlt : k < d.p.ships.length
        · have hltq : k < q.ships.length := by rw [← HLN.out]; exact hlt
          obtain ⟨b4, off4, hA4, hbl4, hc4⟩ := ints_at (l := thePlan q) hS.plW (by rw [HQL.out]; omega)
          subst hA4
          have e4 := hc4 k (by rw [HQL.out]; exact hltq)
          have hd4 : (thePlan q).getD k 0 = (thePlan q).getD k (-1) := by
            have hk2 : k < (thePlan q).length := by rw [HQL.out]; exact hltq
            rw [List.getD_eq_getElem?_getD, List.getD_eq_getElem?_getD, List.getElem?_eq_getElem hk2]; rfl
          rw [hd4] at e4
          obtain ⟨b5, off5, hA5, hbl5, hc5⟩ := ships_at hS.inP (by omega)
          subst hA5
          obtain ⟨d1, d2, d3, d4, d5, d6⟩ := hc5 k hlt
          obtain ⟨b8, off8, hA8, hbl8, hc8⟩ := ships_at hS.inW (by omega)
          subst hA8
          have f1 := (hc8 k hltq).1
          have q8 : wr.cell? ⟨kw, 1, none⟩ = some (.slice (some ⟨b8, off8, none⟩) q.ships.length cw) := (hS.boxW.cell 1).trans HV1.out
          have q7 : wr.cell? ⟨kl, 0, none⟩ = some (.slice (some ⟨b4, off4, none⟩) (thePlan q).length cBw) := hS.cellL
          have HQ := Lib.hid (HWS.out k hltq)
          change wr.cell? _ = some (.int .i64 (d.p.ship k).state) at d1
          change wr.cell? _ = some (.int .i64 (d.p.ship k).wide) at d2
          change wr.cell? _ = some (.int .i64 (d.p.ship k).long) at d3
          change wr.cell? _ = some (.int .i64 (d.p.ship k).cls) at d4
          change wr.cell? _ = some (.int .i64 (d.p.ship k).since) at d5
          change wr.cell? _ = some (.int .i64 (d.p.ship k).queued) at d6
          change wr.cell? _ = some (.int .i64 (q.ship k).state) at f1
          have HPN2 := Lib.hid (show ∀ t, (thePlan d.p).getD k (-1) = t → (thePlan d.p).getD k 0 = t from fun t h => by
            have hk2 : k < (thePlan d.p).length := by rw [HPN.out]; exact hlt
            rw [← h, List.getD_eq_getElem?_getD, List.getD_eq_getElem?_getD, List.getElem?_eq_getElem hk2]; rfl)
          obtain ⟨x, hx⟩ : ∃ x, d.p.ship k = x := ⟨_, rfl⟩
          rw [hx] at d1 d2 d3 d4 d5 d6 HQ
          obtain ⟨st, hst⟩ : ∃ st, (q.ship k).state = st := ⟨_, rfl⟩
          rw [hst] at f1 HQ
          obtain ⟨t, ht⟩ : ∃ t, (thePlan q).getD k (-1) = t := ⟨_, rfl⟩
          rw [ht] at e4 HQ
          obtain ⟨xs, wd, lg, cl, si, qu⟩ := x
          dsimp only at d1 d2 d3 d4 d5 d6 HQ
          have HS := Lib.hid hS
          rw [HQL.out] at q7
          have h14 : d.p.ships.length ≤ 14 := hlen14
          have u1 : decide ((k : Int) < (q.ships.length : Int)) = true := by simpa using hltq
          have u2 : decide ((k : Int) ≥ (q.ships.length : Int)) = false := by simpa using hltq
          have u3 : decide ((q.ships.length : Int) ≤ (k : Int)) = false := by simpa using hltq
          have u4 : decide (q.ships.length ≤ k) = false := by simpa using hltq
          have u5 : decide (k < q.ships.length) = true := by simpa using hltq
          have HB := Lib.hid ((Below.refl wr.heap.size wr).alloc (Nat.le_refl _) (.cells #[.int .i64 xs, .int .i64 wd, .int .i64 lg, .int .i64 cl, .int .i64 si, .int .i64 qu] 43))
          have hN := heap_alloc_new wr (.cells #[.int .i64 xs, .int .i64 wd, .int .i64 lg, .int .i64 cl, .int .i64 si, .int .i64 qu] 43)
          have HN := Lib.hid hN
          clear hc4 hd4 hc5 hc8 hS hx hst ht HWS hN
          go_upto_region 7 with (fail)
          obtain ⟨W7, hW7⟩ : ∃ W7, W7 = wr.alloc (.cells #[.int .i64 xs, .int .i64 wd, .int .i64 lg, .int .i64 cl, .int .i64 si, .int .i64 qu] 43) := ⟨_, rfl⟩
          obtain ⟨kx, hkx⟩ : ∃ kx, wr.heap.size = kx := ⟨_, rfl⟩
          have hbx : Below wr.heap.size wr W7 := by rw [hW7]; exact HB.out
          have hNx : W7.heap[kx]? = some (.cells #[.int .i64 xs, .int .i64 wd, .int .i64 lg, .int .i64 cl, .int .i64 si, .int .i64 qu] 43 (0, 0)) := by rw [hW7, ← hkx]; exact HN.out
          rw [← hW7]
          try rw [hkx]
          have HS7 := Lib.hid (HS.out.go hbx)
          have z1 := below_fact hbx f1
          have z2 := below_fact hbx q8
          have z3 := below_fact hbx q7
          have z4 := below_fact hbx e4
          have z5 : W7.cell? ⟨kx, 0, none⟩ = some (.int .i64 xs) := by rw [cell_of_row W7 kx 0 _ _ _ hNx]; rfl
          have z6 : W7.cell? ⟨kx, 4, none⟩ = some (.int .i64 si) := by rw [cell_of_row W7 kx 4 _ _ _ hNx]; rfl
          clear f1 q8 q7 e4 d1 d2 d3 d4 d5 d6 hbl4 hbl5 hbl8 HB HN hNx HS hW7 hkx hbx
          by_cases h1 : st = 1
          · subst h1
            by_cases h3 : xs = 3
            · subst h3
              obtain rfl : si = t := (HQ.out rfl).1 rfl
              have n1 : (si != si) = false := by simp
              clear HQ
              go_quiet (fail)
              go_wp2_with fail
              go_roundw
              case rel => exact ⟨k + 1, by omega, by go_num, HS7.out.go (below_drewN (Below.refl _ _) _)⟩
              case measure => simp [intOf] <;> omega
            · have n3 : (xs == 3) = false := by simpa using h3
              by_cases h2 : xs = 1
              · subst h2
                have HTT := Lib.hid (HPN2.out t ((HQ.out rfl).2 rfl))
                clear HQ h3
                refine wp_region_plans (S := fun w' => Below W7.heap.size W7 w') (.take 0 (.take 1 (.take 2 (.take 3 (.take 4 (.take 5 (.take 6 (.take 7 (.take 8 (.take 9 (.take 10 (.take 11 (.take 12 (.take 13 (.take 14 (.take 15 (.take 16 (.take 17 (.take 18 (.take 19 (.take 20 (.take 21 (.take 22 (.take 23 (.take 24 (.take 25 (.take 26 (.take 27 (.take 28 (.take 29 (.take 30 (.take 31 (.take 32 (.take 33 (.take 34 (.take 35 (.take 36 (.take 37 (.take 38 (.take 40 (.take 43 (.take 44 (.take 45 (.take 46 (.one 39 (.take 41 (.one 42 (.take 47 (.take 48 (.take 49 (.take 50 (.fin)))))))))))))))))))))))))))))))))))))))))))))))))))) (by kernel_rfl) (by kernel_rfl) (Below.refl _ _).drew ?_
                refine plan_take (v := ?_) rfl (by rfl) (fun w' hw' => ?_) ?_
                rotate_left
                · go_simp; try with_reducible rfl
                try simp only [Act.put, List.getElem_toArray, List.getElem_cons_zero, List.getElem_cons_succ, List.setIfInBounds_toArray, List.set_cons_zero, List.set_cons_succ]
                refine plan_take (v := ?_) rfl (by rfl) (fun w' hw' => ?_) ?_
                rotate_left
                · go_simp; try with_reducible rfl
                try simp only [Act.put, List.getElem_toArray, List.getElem_cons_zero, List.getElem_cons_succ, List.setIfInBounds_toArray, List.set_cons_zero, List.set_cons_succ]
                refine plan_take (v := ?_) rfl (by rfl) (fun w' hw' => ?_) ?_
                rotate_left
                · have y1 := below_fact hw' z1; have y2 := below_fact hw' z2; have y3 := below_fact hw' z3; have y4 := below_fact hw' z4; have y5 := below_fact hw' z5; go_simp; try with_reducible rfl
                try simp only [Act.put, List.getElem_toArray, List.getElem_cons_zero, List.getElem_cons_succ, List.setIfInBounds_toArray, List.set_cons_zero, List.set_cons_succ]
                refine plan_take (v := ?_) rfl (by rfl) (fun w' hw' => ?_) ?_
                rotate_left
                · go_simp; try with_reducible rfl
                try simp only [Act.put, List.getElem_toArray, List.getElem_cons_zero, List.getElem_cons_succ, List.setIfInBounds_toArray, List.set_cons_zero, List.set_cons_succ]
                refine plan_take (v := ?_) rfl (by rfl) (fun w' hw' => ?_) ?_
                rotate_left
                · go_simp; try with_reducible rfl
                try simp only [Act.put, List.getElem_toArray, List.getElem_cons_zero, List.getElem_cons_succ, List.setIfInBounds_toArray, List.set_cons_zero, List.set_cons_succ]
                refine plan_take (v := ?_) rfl (by rfl) (fun w' hw' => ?_) ?_
                rotate_left
                · go_simp; try with_reducible rfl
                try simp only [Act.put, List.getElem_toArray, List.getElem_cons_zero, List.getElem_cons_succ, List.setIfInBounds_toArray, List.set_cons_zero, List.set_cons_succ]
                refine plan_take (v := ?_) rfl (by rfl) (fun w' hw' => ?_) ?_
                rotate_left
                · go_simp; try with_reducible rfl
                try simp only [Act.put, List.getElem_toArray, List.getElem_cons_zero, List.getElem_cons_succ, List.setIfInBounds_toArray, List.set_cons_zero, List.set_cons_succ]
                refine plan_take (v := ?_) rfl (by rfl) (fun w' hw' => ?_) ?_
                rotate_left
                · have y1 := below_fact hw' z1; have y2 := below_fact hw' z2; have y3 := below_fact hw' z3; have y4 := below_fact hw' z4; have y5 := below_fact hw' z5; go_simp; try with_reducible rfl
                try simp only [Act.put, List.getElem_toArray, List.getElem_cons_zero, List.getElem_cons_succ, List.setIfInBounds_toArray, List.set_cons_zero, List.set_cons_succ]
                refine plan_take (v := ?_) rfl (by rfl) (fun w' hw' => ?_) ?_
                rotate_left
                · go_simp; try with_reducible rfl
                try simp only [Act.put, List.getElem_toArray, List.getElem_cons_zero, List.getElem_cons_succ, List.setIfInBounds_toArray, List.set_cons_zero, List.set_cons_succ]
                refine plan_take (v := ?_) rfl (by rfl) (fun w' hw' => ?_) ?_
                rotate_left
                · go_simp; try with_reducible rfl
                try simp only [Act.put, List.getElem_toArray, List.getElem_cons_zero, List.getElem_cons_succ, List.setIfInBounds_toArray, List.set_cons_zero, List.set_cons_succ]
                refine plan_take (v := ?_) rfl (by rfl) (fun w' hw' => ?_) ?_
                rotate_left
                · go_simp; try with_reducible rfl
                try simp only [Act.put, List.getElem_toArray, List.getElem_cons_zero, List.getElem_cons_succ, List.setIfInBounds_toArray, List.set_cons_zero, List.set_cons_succ]
                refine plan_take (v := ?_) rfl (by rfl) (fun w' hw' => ?_) ?_
                rotate_left
                · have y1 := below_fact hw' z1; have y2 := below_fact hw' z2; have y3 := below_fact hw' z3; have y4 := below_fact hw' z4; have y5 := below_fact hw' z5; go_simp; try with_reducible rfl
                try simp only [Act.put, List.getElem_toArray, List.getElem_cons_zero, List.getElem_cons_succ, List.setIfInBounds_toArray, List.set_cons_zero, List.set_cons_succ]
                refine plan_take (v := ?_) rfl (by rfl) (fun w' hw' => ?_) ?_
                rotate_left
                · go_simp; try with_reducible rfl
                try simp only [Act.put, List.getElem_toArray, List.getElem_cons_zero, List.getElem_cons_succ, List.setIfInBounds_toArray, List.set_cons_zero, List.set_cons_succ]
                refine plan_take (v := ?_) rfl (by rfl) (fun w' hw' => ?_) ?_
                rotate_left
                · go_simp; try with_reducible rfl
                try simp only [Act.put, List.getElem_toArray, List.getElem_cons_zero, List.getElem_cons_succ, List.setIfInBounds_toArray, List.set_cons_zero, List.set_cons_succ]
                refine plan_take (v := ?_) rfl (by rfl) (fun w' hw' => ?_) ?_
                rotate_left
                · go_simp; try with_reducible rfl
                try simp only [Act.put, List.getElem_toArray, List.getElem_cons_zero, List.getElem_cons_succ, List.setIfInBounds_toArray, List.set_cons_zero, List.set_cons_succ]
                refine plan_take (v := ?_) rfl (by rfl) (fun w' hw' => ?_) ?_
                rotate_left
                · go_simp; try with_reducible rfl
                try simp only [Act.put, List.getElem_toArray, List.getElem_cons_zero, List.getElem_cons_succ, List.setIfInBounds_toArray, List.set_cons_zero, List.set_cons_succ]
                refine plan_take (v := ?_) rfl (by rfl) (fun w' hw' => ?_) ?_
                rotate_left
                · have y1 := below_fact hw' z1; have y2 := below_fact hw' z2; have y3 := below_fact hw' z3; have y4 := below_fact hw' z4; have y5 := below_fact hw' z5; go_simp; try with_reducible rfl
                try simp only [Act.put, List.getElem_toArray, List.getElem_cons_zero, List.getElem_cons_succ, List.setIfInBounds_toArray, List.set_cons_zero, List.set_cons_succ]
                refine plan_take (v := ?_) rfl (by rfl) (fun w' hw' => ?_) ?_
                rotate_left
                · go_simp; try with_reducible rfl
                try simp only [Act.put, List.getElem_toArray, List.getElem_cons_zero, List.getElem_cons_succ, List.setIfInBounds_toArray, List.set_cons_zero, List.set_cons_succ]
                refine plan_take (v := ?_) rfl (by rfl) (fun w' hw' => ?_) ?_
                rotate_left
                · go_simp; try with_reducible rfl
                try simp only [Act.put, List.getElem_toArray, List.getElem_cons_zero, List.getElem_cons_succ, List.setIfInBounds_toArray, List.set_cons_zero, List.set_cons_succ]
                refine plan_take (v := ?_) rfl (by rfl) (fun w' hw' => ?_) ?_
                rotate_left
                · go_simp; try with_reducible rfl
                try simp only [Act.put, List.getElem_toArray, List.getElem_cons_zero, List.getElem_cons_succ, List.setIfInBounds_toArray, List.set_cons_zero, List.set_cons_succ]
                refine plan_take (v := ?_) rfl (by rfl) (fun w' hw' => ?_) ?_
                rotate_left
                · go_simp; try with_reducible rfl
                try simp only [Act.put, List.getElem_toArray, List.getElem_cons_zero, List.getElem_cons_succ, List.setIfInBounds_toArray, List.set_cons_zero, List.set_cons_succ]
                refine plan_take (v := ?_) rfl (by rfl) (fun w' hw' => ?_) ?_
                rotate_left
                · have y1 := below_fact hw' z1; have y2 := below_fact hw' z2; have y3 := below_fact hw' z3; have y4 := below_fact hw' z4; have y5 := below_fact hw' z5; go_simp; try with_reducible rfl
                try simp only [Act.put, List.getElem_toArray, List.getElem_cons_zero, List.getElem_cons_succ, List.setIfInBounds_toArray, List.set_cons_zero, List.set_cons_succ]
                refine plan_take (v := ?_) rfl (by rfl) (fun w' hw' => ?_) ?_
                rotate_left
                · go_simp; try with_reducible rfl
                try simp only [Act.put, List.getElem_toArray, List.getElem_cons_zero, List.getElem_cons_succ, List.setIfInBounds_toArray, List.set_cons_zero, List.set_cons_succ]
                refine plan_take (v := ?_) rfl (by rfl) (fun w' hw' => ?_) ?_
                rotate_left
                · go_simp; try with_reducible rfl
                try simp only [Act.put, List.getElem_toArray, List.getElem_cons_zero, List.getElem_cons_succ, List.setIfInBounds_toArray, List.set_cons_zero, List.set_cons_succ]
                refine plan_skip rfl (by rfl) ?_
                try simp only [Act.put, List.getElem_toArray, List.getElem_cons_zero, List.getElem_cons_succ, List.setIfInBounds_toArray, List.set_cons_zero, List.set_cons_succ]
                refine plan_skip rfl (by rfl) ?_
                try simp only [Act.put, List.getElem_toArray, List.getElem_cons_zero, List.getElem_cons_succ, List.setIfInBounds_toArray, List.set_cons_zero, List.set_cons_succ]
                refine plan_skip rfl (by rfl) ?_
                try simp only [Act.put, List.getElem_toArray, List.getElem_cons_zero, List.getElem_cons_succ, List.setIfInBounds_toArray, List.set_cons_zero, List.set_cons_succ]
                refine plan_skip rfl (by rfl) ?_
                try simp only [Act.put, List.getElem_toArray, List.getElem_cons_zero, List.getElem_cons_succ, List.setIfInBounds_toArray, List.set_cons_zero, List.set_cons_succ]
                refine plan_skip rfl (by rfl) ?_
                try simp only [Act.put, List.getElem_toArray, List.getElem_cons_zero, List.getElem_cons_succ, List.setIfInBounds_toArray, List.set_cons_zero, List.set_cons_succ]
                refine plan_skip rfl (by rfl) ?_
                try simp only [Act.put, List.getElem_toArray, List.getElem_cons_zero, List.getElem_cons_succ, List.setIfInBounds_toArray, List.set_cons_zero, List.set_cons_succ]
                refine plan_skip rfl (by rfl) ?_
                try simp only [Act.put, List.getElem_toArray, List.getElem_cons_zero, List.getElem_cons_succ, List.setIfInBounds_toArray, List.set_cons_zero, List.set_cons_succ]
                refine plan_take (v := ?_) rfl (by rfl) (fun w' hw' => ?_) ?_
                rotate_left
                · go_simp; try with_reducible rfl
                try simp only [Act.put, List.getElem_toArray, List.getElem_cons_zero, List.getElem_cons_succ, List.setIfInBounds_toArray, List.set_cons_zero, List.set_cons_succ]
                refine plan_take (v := ?_) rfl (by rfl) (fun w' hw' => ?_) ?_
                rotate_left
                · go_simp; try with_reducible rfl
                try simp only [Act.put, List.getElem_toArray, List.getElem_cons_zero, List.getElem_cons_succ, List.setIfInBounds_toArray, List.set_cons_zero, List.set_cons_succ]
                refine plan_take (v := ?_) rfl (by rfl) (fun w' hw' => ?_) ?_
                rotate_left
                · go_simp; try with_reducible rfl
                try simp only [Act.put, List.getElem_toArray, List.getElem_cons_zero, List.getElem_cons_succ, List.setIfInBounds_toArray, List.set_cons_zero, List.set_cons_succ]
                refine plan_take (v := ?_) rfl (by rfl) (fun w' hw' => ?_) ?_
                rotate_left
                · go_simp; try with_reducible rfl
                try simp only [Act.put, List.getElem_toArray, List.getElem_cons_zero, List.getElem_cons_succ, List.setIfInBounds_toArray, List.set_cons_zero, List.set_cons_succ]
                refine plan_take (v := ?_) rfl (by rfl) (fun w' hw' => ?_) ?_
                rotate_left
                · have y1 := below_fact hw' z1; have y2 := below_fact hw' z2; have y3 := below_fact hw' z3; have y4 := below_fact hw' z4; have y5 := below_fact hw' z5; go_simp; try with_reducible rfl
                try simp only [Act.put, List.getElem_toArray, List.getElem_cons_zero, List.getElem_cons_succ, List.setIfInBounds_toArray, List.set_cons_zero, List.set_cons_succ]
                refine plan_take (v := ?_) rfl (by rfl) (fun w' hw' => ?_) ?_
                rotate_left
                · go_simp; try with_reducible rfl
                try simp only [Act.put, List.getElem_toArray, List.getElem_cons_zero, List.getElem_cons_succ, List.setIfInBounds_toArray, List.set_cons_zero, List.set_cons_succ]
                refine plan_take (v := ?_) rfl (by rfl) (fun w' hw' => ?_) ?_
                rotate_left
                · go_simp; try with_reducible rfl
                try simp only [Act.put, List.getElem_toArray, List.getElem_cons_zero, List.getElem_cons_succ, List.setIfInBounds_toArray, List.set_cons_zero, List.set_cons_succ]
                refine plan_take (v := ?_) rfl (by rfl) (fun w' hw' => ?_) ?_
                rotate_left
                · go_simp; try with_reducible rfl
                try simp only [Act.put, List.getElem_toArray, List.getElem_cons_zero, List.getElem_cons_succ, List.setIfInBounds_toArray, List.set_cons_zero, List.set_cons_succ]
                refine plan_take (v := ?_) rfl (by rfl) (fun w' hw' => ?_) ?_
                rotate_left
                · go_simp; try with_reducible rfl
                try simp only [Act.put, List.getElem_toArray, List.getElem_cons_zero, List.getElem_cons_succ, List.setIfInBounds_toArray, List.set_cons_zero, List.set_cons_succ]
                refine plan_take (v := ?_) rfl (by rfl) (fun w' hw' => ?_) ?_
                rotate_left
                · have y1 := below_fact hw' z1; have y2 := below_fact hw' z2; have y3 := below_fact hw' z3; have y4 := below_fact hw' z4; have y5 := below_fact hw' z5; go_simp; try with_reducible rfl
                try simp only [Act.put, List.getElem_toArray, List.getElem_cons_zero, List.getElem_cons_succ, List.setIfInBounds_toArray, List.set_cons_zero, List.set_cons_succ]
                refine plan_take (v := ?_) rfl (by rfl) (fun w' hw' => ?_) ?_
                rotate_left
                · go_simp; try with_reducible rfl
                try simp only [Act.put, List.getElem_toArray, List.getElem_cons_zero, List.getElem_cons_succ, List.setIfInBounds_toArray, List.set_cons_zero, List.set_cons_succ]
                refine plan_take (v := ?_) rfl (by rfl) (fun w' hw' => ?_) ?_
                rotate_left
                · go_simp; try with_reducible rfl
                try simp only [Act.put, List.getElem_toArray, List.getElem_cons_zero, List.getElem_cons_succ, List.setIfInBounds_toArray, List.set_cons_zero, List.set_cons_succ]
                refine plan_take (v := ?_) rfl (by rfl) (fun w' hw' => ?_) ?_
                rotate_left
                · have y1 := below_fact hw' z1; have y2 := below_fact hw' z2; have y3 := below_fact hw' z3; have y4 := below_fact hw' z4; have y5 := below_fact hw' z5; go_simp; try with_reducible rfl
                try simp only [Act.put, List.getElem_toArray, List.getElem_cons_zero, List.getElem_cons_succ, List.setIfInBounds_toArray, List.set_cons_zero, List.set_cons_succ]
                refine plan_one rfl (by rfl) fun K hK => ?_
                go_simp
                go_at_call 8
                refine (HPL.out _ (HS7.out.desk.below (Below.refl _ _).drew)).mono ?_
                rintro e1 w9 ⟨A9, c9, rfl, ho9, hb9⟩
                have hb79 : Below W7.heap.size W7 w9 := below_undrew hb9
                have h9 := Sl.of_own ho9
                obtain ⟨b9, off9, hA9, hbl9, hc9⟩ := ints_at (l := thePlan d.p) h9 (by rw [HPN.out]; omega)
                subst hA9
                have y9 := hc9 k (by rw [HPN.out]; exact hlt)
                rw [HTT.out] at y9
                rw [HPN.out]
                refine hK.out _ _ hb79 ?_
                clear hK K ho9 hb9 h9 hc9
                try simp only [Act.put, List.getElem_toArray, List.getElem_cons_zero, List.getElem_cons_succ, List.setIfInBounds_toArray, List.set_cons_zero, List.set_cons_succ]
                refine plan_take (v := ?_) rfl (by rfl) (fun w' hw' => ?_) ?_
                rotate_left
                · go_simp; try with_reducible rfl
                try simp only [Act.put, List.getElem_toArray, List.getElem_cons_zero, List.getElem_cons_succ, List.setIfInBounds_toArray, List.set_cons_zero, List.set_cons_succ]
                refine plan_one rfl (by rfl) fun K hK => ?_
                go_simp
                refine hK.out _ _ hb79 ?_
                clear hK K
                try simp only [Act.put, List.getElem_toArray, List.getElem_cons_zero, List.getElem_cons_succ, List.setIfInBounds_toArray, List.set_cons_zero, List.set_cons_succ]
                have n1 : (t != t) = false := by simp
                refine plan_take (v := ?_) rfl (by rfl) (fun w' hw' => ?_) ?_
                rotate_left
                · go_simp; try with_reducible rfl
                try simp only [Act.put, List.getElem_toArray, List.getElem_cons_zero, List.getElem_cons_succ, List.setIfInBounds_toArray, List.set_cons_zero, List.set_cons_succ]
                refine plan_take (v := ?_) rfl (by rfl) (fun w' hw' => ?_) ?_
                rotate_left
                · go_simp; try with_reducible rfl
                try simp only [Act.put, List.getElem_toArray, List.getElem_cons_zero, List.getElem_cons_succ, List.setIfInBounds_toArray, List.set_cons_zero, List.set_cons_succ]
                refine plan_take (v := ?_) rfl (by rfl) (fun w' hw' => ?_) ?_
                rotate_left
                · go_simp; try with_reducible rfl
                try simp only [Act.put, List.getElem_toArray, List.getElem_cons_zero, List.getElem_cons_succ, List.setIfInBounds_toArray, List.set_cons_zero, List.set_cons_succ]
                refine plan_take (v := ?_) rfl (by rfl) (fun w' hw' => ?_) ?_
                rotate_left
                · go_simp; try with_reducible rfl
                try simp only [Act.put, List.getElem_toArray, List.getElem_cons_zero, List.getElem_cons_succ, List.setIfInBounds_toArray, List.set_cons_zero, List.set_cons_succ]
                refine plan_done (NoPanic.normal ?_)
                have HS9 := Lib.hid (HS7.out.go hb79)
                clear HS7 hb79 y9
                go_wp2_with fail
                go_roundw
                case rel => exact ⟨k + 1, by omega, by go_num, HS9.out⟩
                case measure => simp [intOf] <;> omega
              · have n2 : (xs == 1) = false := by simpa using h2
                clear HQ h3 h2
                go_quiet (fail)
                go_wp2_with fail
                go_roundw
                case rel => exact ⟨k + 1, by omega, by go_num, HS7.out.go (below_drewN (Below.refl _ _) _)⟩
                case measure => simp [intOf] <;> omega
          · have n1 : (st == 1) = false := by simpa using h1
            clear HQ h1
            go_quiet (fail)
            go_wp2_with fail
            go_roundw
            case rel => exact ⟨k + 1, by omega, by go_num, HS7.out.go (below_drewN (Below.refl _ _) _)⟩
            case measure => simp [intOf] <;> omega
        · obtain rfl : k = d.p.ships.length := by omega
          go_wp2_with fail
          go_meet
          exact hS
    · rw [show decide (E = 0 ∧ K9 = 9 ∧ CC = 0) = false by simpa using hB]
      clear hB HWA
      go_wp2_with fail
      go_meet
      exact HS4.out
  clear HS4 HWA
  have HSC := Lib.hid hcut
  clear hcut
  go_upto_region 10 with (fail)
  refine wp_region_plans (S := fun w' => BoxAt w' kp #[.int .i64 d.p.now, .slice A5 d.p.ships.length c5, v2, v3, v4, v5, v6, v7, v8, v9, v10, v11, v12, v13, v14, v15]) (.take 0 (.take 1 (.one 2 (.one 3 (.one 4 .fin))))) (by kernel_rfl) (by kernel_rfl) HSC.out.boxP ?_
  refine plan_take rfl (by rfl) (fun w' hw' => exec_load_bx rfl rfl hw' rfl) ?_
  try simp only [Act.put, List.getElem_toArray, List.getElem_cons_zero, List.getElem_cons_succ, List.setIfInBounds_toArray, List.set_cons_zero, List.set_cons_succ]
  refine plan_take (v := ?_) rfl (by rfl) (fun w' hw' => ?_) ?_
  rotate_left
  · go_simp; try with_reducible rfl
  try simp only [Act.put, List.getElem_toArray, List.getElem_cons_zero, List.getElem_cons_succ, List.setIfInBounds_toArray, List.set_cons_zero, List.set_cons_succ]
  refine plan_one rfl (by rfl) fun K hK => ?_
  go_simp
  go_at_call 8
  refine (HPL.out _ (HSC.out.desk.below (Below.refl _ _).drew)).mono ?_
  rintro e1 w9 ⟨A9, c9, rfl, ho9, hb9⟩
  have hb79 := below_undrew hb9
  have HS9 := Lib.hid (HSC.out.go hb79)
  have h9 := Lib.hid (Sl.of_own ho9)
  have hf9 : Fr w.heap.size A9 := (sl_frX ho9).mono HSC.out.below.size
  refine hK.out _ _ HS9.out.boxP ?_
  clear hK K ho9 hb9 hb79 HSC
  try simp only [Act.put, List.getElem_toArray, List.getElem_cons_zero, List.getElem_cons_succ, List.setIfInBounds_toArray, List.set_cons_zero, List.set_cons_succ]
  refine plan_one rfl (by rfl) fun K hK => ?_
  refine wp_store_row 34 _ _ rfl kw #[.int .i64 d.p.now, .slice A5 d.p.ships.length c5, v2, v3, v4, v5, v6, v7, v8, v9, v10, v11, v12, v13, v14, v15] rfl rfl _ _ HS9.out.boxW (by exact port_size) HVW.out HVO.out ?_
  have hr10 := OneRow.of_row w9 kw #[.int .i64 d.p.now, .slice A5 d.p.ships.length c5, v2, v3, v4, v5, v6, v7, v8, v9, v10, v11, v12, v13, v14, v15]
  have hW10 : BoxAt _ kw _ := setRow_heap w9 kw _ #[.int .i64 d.p.now, .slice A5 d.p.ships.length c5, v2, v3, v4, v5, v6, v7, v8, v9, v10, v11, v12, v13, v14, v15] _ _ HS9.out.boxW
  have hL10 := (hr10.block kl (Ne.symm hn3)).trans HS9.out.boxL
  have hP10 : BoxAt _ kp _ := (hr10.block kp (by omega)).trans HS9.out.boxP
  obtain ⟨w10, hw10⟩ : ∃ w10, w9.setRow kw #[.int .i64 d.p.now, .slice A5 d.p.ships.length c5, v2, v3, v4, v5, v6, v7, v8, v9, v10, v11, v12, v13, v14, v15] = w10 := ⟨_, rfl⟩
  rw [hw10] at hr10 hW10 hL10 hP10 ⊢
  clear hw10
  refine hK.out _ _ hP10 ?_
  clear hK K
  try simp only [Act.put, List.getElem_toArray, List.getElem_cons_zero, List.getElem_cons_succ, List.setIfInBounds_toArray, List.set_cons_zero, List.set_cons_succ]
  have z0 : w10.cell? ⟨kl, 0, none⟩ = some (.slice Bw (thePlan q).length cBw) := by rw [cell_of_row w10 kl 0 _ _ _ hL10]; rfl
  have z1 : w10.frozen? ⟨kl, 0, none⟩ = false := by simp [World.frozen?, hL10]
  refine plan_one rfl (by rfl) fun K hK => ?_
  go_simp
  have hr11 := OneRow.of_cell w10 ⟨kl, 0, none⟩ (.slice A9 (thePlan d.p).length c9)
  refine hK.out _ _ ((hr11.block kp (by dsimp only; omega)).trans hP10) ?_
  clear hK K z0 z1
  refine plan_done (NoPanic.normal ?_)
  have hL11 := slot_set (v := .slice A9 (thePlan d.p).length c9) hL10
  have hW11 : BoxAt _ kw _ := (hr11.block kw hn3).trans hW10
  have HK := Lib.hid ((((Kp.of_below (M := fun b => b = kw ∨ b = kl) HS9.out.below).then_one hr10 (.inl rfl))).then_one hr11 (.inr rfl))
  have HF := Lib.hid (show ∀ b, b < w9.heap.size → ¬ G b → (w10.setCell ⟨kl, 0, none⟩ (.slice A9 (thePlan d.p).length c9)).heap[b]? = w9.heap[b]? from fun b _ hg => (hr11.block b (fun e => hg (by rw [e]; exact HGG.out.2))).trans (hr10.block b (fun e => hg (by rw [e]; exact HGG.out.1))))
  have HR5 := Lib.hid ((Row.fresh (G := G) HS9.out.inP hf5 HALL.out).same HF.out)
  have HR9 := Lib.hid ((Row.fresh (G := G) h9.out hf9 HALL.out).same HF.out)
  have HL11 := Lib.hid hL11
  have HW11 := Lib.hid hW11
  clear hr10 hW10 hL10 hP10 hr11 HS9 h9 hL11 hW11 HF hf5 hf9
  go_wp2_with fail
  go_ret
  exact ⟨rfl, HK.out, A5, c5, A9, c9, _, rfl, rfl, HW11.out, HL11.out, HR5.out, HR9.out⟩
end Go.Proofs.YtifmdkcpbajdcaaGreatDoor

/- Plain laws: ships turned one by one. -/
import Derived.Test.YtifmdkcpbajdcabGreatDoorPlain
import Derived.Test.YtifmdkcpbajdcabGreatDoorTellR
import Derived.BigQuiet
set_option linter.unusedVariables false
set_option linter.unusedSimpArgs false
set_option maxHeartbeats 16000000
namespace Go.Proofs.YtifmdkcpbajdcabGreatDoor.Plain
def stepTo (f : Nat -> Ship -> Ship) (l : List Ship) (k : Nat) : List Ship := (List.range l.length).map fun i => if i < k then f i (l.getD i Ship.zero) else l.getD i Ship.zero
theorem step_len (f : Nat -> Ship -> Ship) (l : List Ship) (k : Nat) : (stepTo f l k).length = l.length := by simp [stepTo]
theorem step_get (f : Nat -> Ship -> Ship) (l : List Ship) (k i : Nat) (h : i < l.length) : (stepTo f l k).getD i Ship.zero = if i < k then f i (l.getD i Ship.zero) else l.getD i Ship.zero := by
  unfold stepTo
  rw [List.getD_eq_getElem?_getD, List.getElem?_map, List.getElem?_range h]; rfl
theorem ship_ext {l m : List Ship} (hl : l.length = m.length) (h : ∀ i, i < l.length -> l.getD i Ship.zero = m.getD i Ship.zero) : l = m := by
  refine List.ext_getElem hl fun i h1 h2 => ?_
  have := h i h1
  rw [List.getD_eq_getElem?_getD, List.getD_eq_getElem?_getD, List.getElem?_eq_getElem h1, List.getElem?_eq_getElem h2] at this
  exact this
theorem step_zero (f : Nat -> Ship -> Ship) (l : List Ship) : stepTo f l 0 = l := by
  refine ship_ext (step_len f l 0) fun i h => ?_
  rw [step_len] at h
  rw [step_get f l 0 i h, if_neg (by omega)]
theorem step_next (f : Nat -> Ship -> Ship) (l : List Ship) (k : Nat) (h : k < l.length) : (stepTo f l k).set k (f k (l.getD k Ship.zero)) = stepTo f l (k + 1) := by
  refine ship_ext (by rw [List.length_set, step_len, step_len]) fun i hi => ?_
  rw [List.length_set, step_len] at hi
  rw [step_get f l (k + 1) i hi, List.getD_eq_getElem?_getD, List.getElem?_set]
  by_cases e : k = i
  · subst e
    rw [if_pos rfl, if_pos (by rw [step_len]; exact h), if_pos (by omega)]; rfl
  · rw [if_neg e, <- List.getD_eq_getElem?_getD, step_get f l k i hi]
    by_cases d : i < k
    · rw [if_pos d, if_pos (by omega)]
    · rw [if_neg d, if_neg (by omega)]
theorem step_same (f : Nat -> Ship -> Ship) (l : List Ship) (k : Nat) (h : k < l.length -> f k (l.getD k Ship.zero) = l.getD k Ship.zero) : stepTo f l (k + 1) = stepTo f l k := by
  refine ship_ext (by rw [step_len, step_len]) fun i hi => ?_
  rw [step_len] at hi
  rw [step_get f l (k + 1) i hi, step_get f l k i hi]
  by_cases e : k = i
  · subst e
    rw [if_pos (by omega), if_neg (by omega), h hi]
  · by_cases d : i < k
    · rw [if_pos d, if_pos (by omega)]
    · rw [if_neg d, if_neg (by omega)]
theorem step_all (f : Nat -> Ship -> Ship) (l : List Ship) (k : Nat) (h : l.length <= k) : stepTo f l k = (List.range l.length).map fun i => f i (l.getD i Ship.zero) := by
  unfold stepTo
  refine List.map_congr_left fun i hi => ?_
  rw [if_pos (by have := List.mem_range.1 hi; omega)]
def lateF (now : Int) (_ : Nat) (s : Ship) : Ship := if s.state = 3 /\ s.since + s.long <= now + 1 then { s with state := 4, since := 0 } else s
theorem later_ships (p : Port) : (laterL p).ships = stepTo (lateF p.now) p.ships p.ships.length := by rw [step_all _ _ _ (Nat.le_refl _)]; rfl
def dueF (p : Port) (plan : List Int) (i : Nat) (s : Ship) : Ship := if isDue p plan i = true then { s with state := 3, since := p.now } else s
theorem due_ships (p : Port) (plan : List Int) (k : Nat) (h : p.ships.length <= k) : (dueL p plan).ships = stepTo (dueF p plan) p.ships k := by rw [step_all _ _ _ h]; rfl
theorem due_ships2 (p : Port) (plan : List Int) : (dueL p plan).ships = stepTo (dueF p plan) p.ships plan.length := by
  rw [due_ships p plan p.ships.length (Nat.le_refl _)]
  refine ship_ext (by rw [step_len, step_len]) fun i hi => ?_
  rw [step_len] at hi
  rw [step_get _ _ _ i hi, step_get _ _ _ i hi, if_pos hi]
  by_cases c : i < plan.length
  · rw [if_pos c]
  · rw [if_neg c]
    unfold dueF
    rw [if_neg]
    simp [isDue, c]
def whoTo (p : Port) (plan : List Int) (k : Nat) : List Nat := (List.range k).filter fun i => decide (i < p.ships.length) && isDue p plan i
theorem who_yes {p : Port} {plan : List Int} {k : Nat} (h : k < p.ships.length) (hd : isDue p plan k = true) : whoTo p plan (k + 1) = whoTo p plan k ++ [k] := by
  unfold whoTo; rw [List.range_succ, List.filter_append]; simp [h, hd]
theorem who_no {p : Port} {plan : List Int} {k : Nat} (h : ¬ (k < p.ships.length /\ isDue p plan k = true)) : whoTo p plan (k + 1) = whoTo p plan k := by
  unfold whoTo; rw [List.range_succ, List.filter_append]
  have : (decide (k < p.ships.length) && isDue p plan k) = false := by
    rw [<- Bool.not_eq_true, Bool.and_eq_true, decide_eq_true_eq]; exact h
  simp [this]
theorem who_len (p : Port) (plan : List Int) (k : Nat) : (whoTo p plan k).length <= k := by
  have := List.length_filter_le (fun i => decide (i < p.ships.length) && isDue p plan i) (List.range k)
  rwa [List.length_range] at this
theorem filter_all {n : Nat} (f g : Nat -> Bool) : ∀ d, (∀ i, i < n -> f i = g i) -> (∀ i, n <= i -> f i = false) -> (List.range (n + d)).filter f = (List.range n).filter g
  | 0, h, _ => List.filter_congr fun i hi => h i (List.mem_range.1 hi)
  | d + 1, h, h2 => by
    rw [show n + (d + 1) = (n + d) + 1 from rfl, List.range_succ, List.filter_append, filter_all f g d h h2]
    simp [h2 (n + d) (by omega)]
theorem who_all (p : Port) (plan : List Int) : whoTo p plan plan.length = whoL p plan := by
  unfold whoTo whoL
  by_cases c : p.ships.length <= plan.length
  · obtain ⟨d, hd⟩ : ∃ d, plan.length = p.ships.length + d := ⟨plan.length - p.ships.length, by omega⟩
    rw [hd]
    exact filter_all _ _ d (fun i hi => by simp [hi]) (fun i hi => by simp; intro h; omega)
  · obtain ⟨d, hd⟩ : ∃ d, p.ships.length = plan.length + d := ⟨p.ships.length - plan.length, by omega⟩
    rw [hd]
    symm
    exact filter_all _ _ d (fun i hi => by simp; omega) (fun i hi => by simp [isDue]; omega)
end Go.Proofs.YtifmdkcpbajdcabGreatDoor.Plain
namespace Go.Proofs.YtifmdkcpbajdcabGreatDoor
open Go.RowKit Go.Proofs Plain
open Go.Act renaming put -> aP, eval -> aE
open Go.Lib renaming hid -> hd_
def RetP2 (r : Port × Int) (w : World) (e : Ending) (w' : World) : Prop :=
  ∃ A c, e = .returned (.tuple #[.agg (portA r.1 A c), .int .i64 r.2]) /\ InP w' r.1 A /\ Below w.heap.size w w'
theorem results_port2 {fn : Func} {t u : Tmp} (h : fn.results = #[.cell t 36, .tmp u]) (tmps : Array Value) (w : World) (g : Nat) {p : Port} {A : Option Addr} {c : Nat}
    (hp : tmps.getD t undef = .pointer (some ⟨g, 0, none⟩)) (hf : PortAt w g p A c) : (results fn tmps).run Tryz.prog w = .ok (.tuple #[.agg (portA p A c), tmps.getD u undef]) w := by
  rw [results_cell_tmp h, hp]
  simp [asAddr, load_port_run hf]
theorem portA_ships (p : Port) (l : List Ship) (A : Option Addr) (c : Nat) (h : l.length = p.ships.length) : portA { p with ships := l } A c = portA p A c := by
  simp [portA, Port.keep, h]
set_option maxRecDepth 100000 in
theorem later_walk (p : Port) (A : Option Addr) (c : Nat) (w : World) (hg : PGood p) (hin : InP w p A) (hn : p.now + 1 < 300) :
    Calls Tryz.prog 51 #[.agg (portA p A c)] w (RetP2 (laterL p, 0) w) := by
  have HW := hd_ (fair_wf hg.toFair)
  have HG := hd_ ((goodP_iff hg.four).2 hg)
  have HGD := hd_ hg
  have hn2 := hg.now
  have hlen := hg.len
  have HLS := hd_ (later_ships p)
  clear hg
  simp only [portA]
  go_enter Tryz.func51, Tryz.ntmps51
  have hP0 : PortAt ((w.alloc (.cells (portA p A c) 36)).alloc (.cells (portA Port.zero none 0) 36)) w.heap.size p A c := (PortAt.new w p A c).alloc _
  have hZ0 : PortAt ((w.alloc (.cells (portA p A c) 36)).alloc (.cells (portA Port.zero none 0) 36)) (w.heap.size + 1) Port.zero none 0 := by
    have := PortAt.new (w.alloc (.cells (portA p A c) 36)) Port.zero none 0
    simpa using this
  have hB0 : Below w.heap.size w ((w.alloc (.cells (portA p A c) 36)).alloc (.cells (portA Port.zero none 0) 36)) := ((Below.refl _ _).alloc (Nat.le_refl _) _).alloc (by simp) _
  have hs0 : ((w.alloc (.cells (portA p A c) 36)).alloc (.cells (portA Port.zero none 0) 36)).heap.size = w.heap.size + 2 := by simp
  simp only [portA, Port.zero, Port.keep, Kept.zero, List.getD_cons_zero, List.getD_cons_succ, List.length_nil] at hP0 hZ0 hB0 hs0
  go_wp2_with (refine wLP rfl rfl (by first | rfl | simp [aE, aP]) hP0 ?_)
  refine (good_port p A c _ HW.out (Sl.below hin hB0)).mono ?_
  rintro e w1 ⟨rfl, hb1⟩
  rw [HG.out]
  have hP1 := PortAt.below (p := p) (A := A) (c := c) hP0 hb1 (by rw [hs0]; omega)
  have hZ1 := PortAt.below (p := Port.zero) (A := none) (c := 0) hZ0 hb1 (by rw [hs0]; omega)
  have hB1 := bG_ hB0 hb1
  have hs1 := hb1.size
  rw [hs0] at hs1
  have q0 := hP1.now
  have d0 : decide (300 <= p.now + 1) = false := by simp; omega
  clear hP0 hZ0 hB0 hb1 hs0
  go_wp2_with (refine wLP rfl rfl (by first | rfl | simp [aE, aP]) hP1 ?_)
  refine (ownP_any p A c _ (Sl.below hin hB1) (by omega)).mono ?_
  rintro e w2 ⟨A2, c2, rfl, ho2, hb2⟩
  have hs2 := hb2.size
  have hP2 := hP1.below hb2 (by omega)
  have hZ2 := hZ1.below hb2 (by omega)
  have hB2 := bG_ hB1 hb2
  clear hP1 hZ1 hB1 hb2 q0
  have hQ : ∀ w3, PortAt w3 w.heap.size p A2 c2 -> PortAt (w3.setCell ⟨w.heap.size, 0, none⟩ (.int .i64 (p.now + 1))) w.heap.size { p with now := p.now + 1 } A2 c2 := fun w3 h => h.put 0 _ _ _ _ (by simp [portA, Port.keep])
  go_wp2_with (refine wSP (p := p) (A := A) (c := c) (q := p) (B := A2) (d := c2) rfl rfl (by first | rfl | simp [aE, aP]) (by first | rfl | simp [aE, aP]) hP2 ?_; intro w3 hP3 hr3; have q0 := hP3.now; have f0 := hP3.frozen 0; have hP4 := hQ w3 hP3; have q1 := hP4.ships)
  have hZ4 := (hZ2.one hr3 (by omega)).beside ⟨w.heap.size, 0, none⟩ (.int .i64 (p.now + 1)) (by simp)
  have hB4 := (hB2.trans (hr3.below (n := w.heap.size) (Nat.le_refl _))).setCell (p := ⟨w.heap.size, 0, none⟩) (Nat.le_refl _) (.int .i64 (p.now + 1))
  have ho4 : OwnK (w3.setCell ⟨w.heap.size, 0, none⟩ (.int .i64 (p.now + 1))) (w.heap.size + 2) (.slice A2 p.ships.length c2) p.ships :=
    own_weak (own_one (own_one ho2 hr3 (by omega)) (OneRow.of_cell w3 ⟨w.heap.size, 0, none⟩ (.int .i64 (p.now + 1))) (by simp; omega)) (by omega)
  have hz0 := step_zero (lateF p.now) p.ships
  clear hP2 hZ2 hB2 ho2 hP3 hr3 q0 f0 q1 hQ
  go_loopw [24] (fun i wr => ∃ k : Nat, k <= p.ships.length /\ i = .int .i64 k /\ OwnK wr (w.heap.size + 2) (.slice A2 p.ships.length c2) (stepTo (lateF p.now) p.ships k) /\ PortAt wr w.heap.size { p with now := p.now + 1 } A2 c2 /\ PortAt wr (w.heap.size + 1) Port.zero none 0 /\ Below w.heap.size w wr) (fun i _ => p.ships.length - (intOf i).toNat)
  case atStart => exact ⟨0, Nat.zero_le _, rfl, by rw [hz0]; exact ho4, hP4, hZ4, hB4⟩
  case round =>
    clear hP4 hZ4 hB4 ho4 hz0
    obtain ⟨k, hk, rfl, ho, hP, hZ, hB⟩ := hrel
    have q0 := hP.now
    have q1 := hP.ships
    dsimp only at q0 q1
    have hll := step_len (lateF p.now) p.ships k
    by_cases hlt : k < p.ships.length
    · have HNX := hd_ (step_next (lateF p.now) p.ships k hlt)
      have HSM := hd_ (fun (e : lateF p.now k (p.ship k) = p.ship k) => step_same (lateF p.now) p.ships k (fun _ => e))
      have hgk := step_get (lateF p.now) p.ships k k hlt
      rw [if_neg (Nat.lt_irrefl k)] at hgk
      have hship := (HGD.out.ship k hlt).1
      have hlies := hship.lies
      have hlg := hship.long
      clear hship
      have HF := hd_ (show lateF p.now k (p.ship k) = if (p.ship k).state = 3 /\ (p.ship k).since + (p.ship k).long <= p.now + 1 then { p.ship k with state := 4, since := 0 } else p.ship k from rfl)
      change (stepTo (lateF p.now) p.ships k).set k (lateF p.now k (p.ship k)) = _ at HNX
      change (stepTo (lateF p.now) p.ships k).getD k Ship.zero = p.ship k at hgk
      generalize stepTo (lateF p.now) p.ships k = L at *
      have ho' : OwnK wr (w.heap.size + 2) (.slice A2 L.length c2) L := by rw [hll]; exact ho
      have hP' : PortAt wr w.heap.size { p with now := p.now + 1, ships := L } A2 c2 := by
        unfold PortAt; rw [portA_ships { p with now := p.now + 1 } L A2 c2 hll]; exact hP
      have hog' : (Value.slice A2 L.length c2).ownBlock ≠ some w.heap.size := fun e => by have := oBk ho' _ e; omega
      obtain ⟨b, hA2, _, _⟩ := ownK_at ho' (by rw [hll]; omega)
      obtain ⟨_, F⟩ := found (p := { p with now := p.now + 1, ships := L }) hP' ho' hog' (by show k < L.length; rw [hll]; exact hlt) hA2
      subst hA2
      have hpk : ({ p with now := p.now + 1, ships := L } : Port).ship k = p.ship k := hgk
      have e0 := F.cells 0 (by omega)
      have e2 := F.cells 2 (by omega)
      have e4 := F.cells 4 (by omega)
      rw [hpk] at e0 e2 e4
      rw [Nat.add_zero] at e0
      have i0 := F.ice (k * 6)
      have i4 := F.ice (k * 6 + 4)
      have hFb := F.base
      have hne := F.ne
      clear F hpk hog' hP'
      generalize p.ship k = x at *
      obtain ⟨st, wd, lg, cl, si, qu⟩ := x
      simp only [shipV] at e0 e2 e4
      dsimp only at hlies hlg HF
      change wr.cell? _ = some (.int .i64 st) at e0
      change wr.cell? _ = some (.int .i64 lg) at e2
      change wr.cell? _ = some (.int .i64 si) at e4
      by_cases h3 : st = 3
      · obtain ⟨l1, l2, l3, l4⟩ := hlies h3
        have d3 : (st == 3) = true := by simpa using h3
        by_cases h4 : si + lg <= p.now + 1
        · have d4 : decide (si + lg <= p.now + 1) = true := by simpa using h4
          have HE := hd_ (show L.set k ⟨4, wd, lg, cl, 0, qu⟩ = stepTo (lateF p.now) p.ships (k + 1) by rw [<- HNX, HF.out, if_pos ⟨h3, h4⟩])
          clear HNX HSM HF hlies
          go_wp2_with fail
          go_quiet (fail)
          have hog2 := own_gone (w := wr.drewN nq) (x := 4) (y := 0) ho' (show k < L.length by rw [hll]; exact hlt)
          rw [hgk] at hog2
          dsimp only at hog2
          rw [HE.out] at hog2
          have hll2 := step_len (lateF p.now) p.ships (k + 1)
          rw [hll2] at hog2
          have HO := hd_ hog2
          have HP := hd_ (((hP.drewN nq).beside ⟨b, k * 6, none⟩ (.int .i64 4) (by simpa using hne)).beside ⟨b, k * 6 + 4, none⟩ (.int .i64 0) (by simpa using hne))
          have HZ := hd_ (((hZ.drewN nq).beside ⟨b, k * 6, none⟩ (.int .i64 4) (by simp; omega)).beside ⟨b, k * 6 + 4, none⟩ (.int .i64 0) (by simp; omega))
          have HB := hd_ (((bdN hB nq).setCell (p := ⟨b, k * 6, none⟩) (by simp; omega) (.int .i64 4)).setCell (p := ⟨b, k * 6 + 4, none⟩) (by simp; omega) (.int .i64 0))
          clear hog2
          go_wp2_with fail
          go_roundw
          case rel => exact ⟨k + 1, by omega, by go_num, HO.out, HP.out, HZ.out, HB.out⟩
          case measure => simp [intOf] <;> omega
        · have d4 : decide (si + lg <= p.now + 1) = false := by simpa using h4
          have HE := hd_ (show stepTo (lateF p.now) p.ships (k + 1) = L from HSM.out (by rw [HF.out, if_neg (fun h => h4 h.2)]))
          clear HNX HSM HF hlies
          go_wp2_with fail
          go_quiet (fail)
          go_wp2_with fail
          go_roundw
          case rel => exact ⟨k + 1, by omega, by go_num, by rw [HE.out]; exact ho, hP, hZ, bdN hB nq⟩
          case measure => simp [intOf] <;> omega
      · have d3 : (st == 3) = false := by simpa using h3
        have HE := hd_ (show stepTo (lateF p.now) p.ships (k + 1) = L from HSM.out (by rw [HF.out, if_neg (fun h => h3 h.1)]))
        clear HNX HSM HF hlies
        go_wp2_with fail
        go_quiet (fail)
        go_wp2_with fail
        go_roundw
        case rel => exact ⟨k + 1, by omega, by go_num, by rw [HE.out]; exact ho, hP, hZ, bdN hB nq⟩
        case measure => simp [intOf] <;> omega
    · obtain rfl : k = p.ships.length := by omega
      go_wp2_with (first
        | (refine wLP (p := { p with now := p.now + 1 }) (A := A2) (c := c2) rfl rfl (by first | rfl | simp [aE, aP]) hP ?_)
        | (refine wSP rfl rfl (by first | rfl | simp [aE, aP]) (by first | rfl | simp [aE, aP]) hZ ?_; intro w4 hZ4 hr4))
      refine bodyPost_ret (results_port2 rfl _ _ (w.heap.size + 1) rfl hZ4) rfl ?_
      have ho5 := own_one ho hr4 (by omega)
      rw [<- HLS.out] at ho5 hll
      refine ⟨A2, c2, ?_, ?_, hB.trans (hr4.below (n := w.heap.size) (by omega))⟩
      · have e : portA (laterL p) A2 c2 = portA { p with now := p.now + 1 } A2 c2 := portA_ships { p with now := p.now + 1 } (laterL p).ships A2 c2 hll
        dsimp only
        rw [e]; rfl
      · unfold InP
        have := Sl.of_own (w := w4) (base := w.heap.size + 2) (e := 61) (size := 6) (A := A2) (n := (laterL p).ships.length) (c := c2) (by rw [hll]; rw [hll] at ho5; exact ho5)
        exact this
def RetDueF (p : Port) (plan : List Int) (w : World) (e : Ending) (w' : World) : Prop :=
  ∃ A c B d, e = .returned (.tuple #[.agg (portA (dueL p plan) A c), .slice B (whoL p plan).length d]) /\ InP w' (dueL p plan) A /\ Sl w' 1 B (whoL p plan).length ((natsI (whoL p plan)).map (Value.int .i64)) /\ Below w.heap.size w w' /\ Fr w.heap.size A
theorem own_grow {w w' : World} {base size n : Nat} {T : TypeId} {v : Value} {xs : List Value} {row : Option Nat} (h : w.ownsRow base T size v n xs) (hg : w.grownBy w' row) (hne : ∀ x, v.ownBlock = some x -> some x ≠ row) : w'.ownsRow base T size v n xs := by
  refine ⟨h.1, ?_⟩
  rcases h.2 with hn | ⟨b, cap, cur, hv, hb, hh, rest⟩
  · exact .inl hn
  · exact .inr ⟨b, cap, cur, hv, hb, (hg.block b (Array.getElem?_eq_some_iff.1 hh).1 (hne b (by rw [hv]; rfl))).trans hh, rest⟩
set_option maxRecDepth 100000 in
theorem due_fr (p : Port) (A : Option Addr) (c : Nat) (plan : List Int) (B : Option Addr) (d : Nat) (w : World) (hg : PWf p) (hlen : p.ships.length <= 100000) (hin : InP w p A)
    (hpl : plan.length <= 100000) (hsl : Sl w 1 B plan.length (plan.map (Value.int .i64))) :
    Calls Tryz.prog 57 #[.agg (portA p A c), .slice B plan.length d] w (RetDueF p plan w) := by
  have hn2 := hg.now
  have HGD := hd_ hg
  have HLS := hd_ (due_ships2 p plan)
  have HWA := hd_ (who_all p plan)
  clear hg
  simp only [portA]
  go_enter Tryz.func57, Tryz.ntmps57
  have hP0 : PortAt ((w.alloc (.cells (portA p A c) 36)).alloc (.cells (portA Port.zero none 0) 36)) w.heap.size p A c := (PortAt.new w p A c).alloc _
  have hZ0 : PortAt ((w.alloc (.cells (portA p A c) 36)).alloc (.cells (portA Port.zero none 0) 36)) (w.heap.size + 1) Port.zero none 0 := by
    have := PortAt.new (w.alloc (.cells (portA p A c) 36)) Port.zero none 0
    simpa using this
  have hB0 : Below w.heap.size w ((w.alloc (.cells (portA p A c) 36)).alloc (.cells (portA Port.zero none 0) 36)) := ((Below.refl _ _).alloc (Nat.le_refl _) _).alloc (by simp) _
  have hs0 : ((w.alloc (.cells (portA p A c) 36)).alloc (.cells (portA Port.zero none 0) 36)).heap.size = w.heap.size + 2 := by simp
  simp only [portA, Port.zero, Port.keep, Kept.zero, List.getD_cons_zero, List.getD_cons_succ, List.length_nil] at hP0 hZ0 hB0 hs0
  go_wp2_with (refine wLP rfl rfl (by first | rfl | simp [aE, aP]) hP0 ?_)
  refine (ownP_any p A c _ (Sl.below hin hB0) hlen).mono ?_
  rintro e w2 ⟨A2, c2, rfl, ho2, hb2⟩
  have hs2 := hb2.size
  rw [hs0] at hs2 ho2
  have hP2 := PortAt.below (p := p) (A := A) (c := c) hP0 hb2 (by rw [hs0]; omega)
  have hZ2 := PortAt.below (p := Port.zero) (A := none) (c := 0) hZ0 hb2 (by rw [hs0]; omega)
  have hB2 := bG_ hB0 hb2
  clear hP0 hZ0 hB0 hb2 hs0
  go_wp2_with (refine wSP (p := p) (A := A) (c := c) (q := p) (B := A2) (d := c2) rfl rfl (by first | rfl | simp [aE, aP]) (by first | rfl | simp [aE, aP]) hP2 ?_; intro w3 hP3 hr3)
  have hZ3 := hZ2.one hr3 (by omega)
  have hB3 := hB2.trans (hr3.below (n := w.heap.size) (Nat.le_refl _))
  have ho3 : OwnK w3 (w.heap.size + 2) (.slice A2 p.ships.length c2) p.ships := own_one ho2 hr3 (by omega)
  clear hP2 hZ2 hB2 ho2
  have hz0 := step_zero (dueF p plan) p.ships
  have hsz3 := hr3.size
  clear hr3
  have hbl3 : ∀ x, (Value.slice A2 p.ships.length c2).ownBlock = some x -> x < w3.heap.size := fun x hx => by
    rcases ho3.2 with ⟨hv, _⟩ | ⟨gg, cap, cur, hv, _, hh, _⟩
    · rw [hv] at hx; cases hx
    · rw [hv] at hx; simp only [Value.ownBlock, Option.some.injEq] at hx
      have := (Array.getElem?_eq_some_iff.1 hh).1
      omega
  have hw3 : w.heap.size + 2 <= w3.heap.size := by omega
  go_loopw [13, 6] (fun i v wr => ∃ k : Nat, k <= plan.length /\ i = .int .i64 k /\ OwnK wr (w.heap.size + 2) (.slice A2 p.ships.length c2) (stepTo (dueF p plan) p.ships k) /\ OwnI wr w3.heap.size v (natsI (whoTo p plan k)) /\ PortAt wr w.heap.size p A2 c2 /\ PortAt wr (w.heap.size + 1) Port.zero none 0 /\ Below w.heap.size w wr /\ w3.heap.size <= wr.heap.size) (fun i _ _ => plan.length - (intOf i).toNat)
  case atStart => exact ⟨0, Nat.zero_le _, rfl, by rw [hz0]; exact ho3, OwnI.nil _ _, hP3, hZ3, hB3, Nat.le_refl _⟩
  case round =>
    clear hP3 hZ3 hB3 ho3 hz0 hsz3
    obtain ⟨k, hk, rfl, ho, hown, hP, hZ, hB, hsz⟩ := hrel
    have q0 := hP.now
    have q1 := hP.ships
    have hll := step_len (dueF p plan) p.ships k
    have hwl := who_len p plan k
    have hnl := nIl (whoTo p plan k)
    by_cases hlt : k < plan.length
    · obtain ⟨b3, off3, hA3, hbl, hc3⟩ := ints_at (l := plan) (Sl.below hsl hB) (by omega)
      subst hA3
      have e3 := hc3 k hlt
      clear hc3
      have hd : plan.getD k 0 = plan.getD k (-1) := by
        rw [List.getD_eq_getElem?_getD, List.getD_eq_getElem?_getD, List.getElem?_eq_getElem hlt]; rfl
      rw [hd] at e3
      have HD := hd_ (show isDue p plan k = (decide (k < plan.length) && decide (plan.getD k (-1) = p.now) && decide ((p.ship k).state = 1)) from rfl)
      have HWY := hd_ (fun h => @who_yes p plan k h)
      have HWN := hd_ (@who_no p plan k)
      have HSM := hd_ (fun e => step_same (dueF p plan) p.ships k e)
      have HF := hd_ (show dueF p plan k (p.ship k) = if isDue p plan k = true then { p.ship k with state := 3, since := p.now } else p.ship k from rfl)
      clear hd
      generalize plan.getD k (-1) = t at *
      by_cases hkn : k < p.ships.length
      · have HNX := hd_ (step_next (dueF p plan) p.ships k hkn)
        have hgk := step_get (dueF p plan) p.ships k k hkn
        rw [if_neg (Nat.lt_irrefl k)] at hgk
        change (stepTo (dueF p plan) p.ships k).getD k Ship.zero = p.ship k at hgk
        generalize stepTo (dueF p plan) p.ships k = L at *
        have ho' : OwnK wr (w.heap.size + 2) (.slice A2 L.length c2) L := by rw [hll]; exact ho
        have hP' : PortAt wr w.heap.size { p with ships := L } A2 c2 := by
          unfold PortAt; rw [portA_ships p L A2 c2 hll]; exact hP
        have hog' : (Value.slice A2 L.length c2).ownBlock ≠ some w.heap.size := fun e => by have := oBk ho' _ e; omega
        obtain ⟨b, hA2, _, _⟩ := ownK_at ho' (by rw [hll]; omega)
        obtain ⟨_, F⟩ := found (p := { p with ships := L }) hP' ho' hog' (by show k < L.length; rw [hll]; exact hkn) hA2
        subst hA2
        have hbb : b < w3.heap.size := hbl3 b rfl
        have hpk : ({ p with ships := L } : Port).ship k = p.ship k := hgk
        have e0 := F.cells 0 (by omega)
        have e4 := F.cells 4 (by omega)
        rw [hpk] at e0 e4
        rw [Nat.add_zero] at e0
        have i0 := F.ice (k * 6)
        have i4 := F.ice (k * 6 + 4)
        have hFb := F.base
        have hne := F.ne
        clear F hpk hog' hP'
        have hp0 : p.ships.getD k Ship.zero = p.ship k := rfl
        rw [hp0] at HNX HSM
        clear hp0
        generalize p.ship k = x at *
        obtain ⟨st, wd, lg, cl, si, qu⟩ := x
        simp only [shipV] at e0 e4
        change wr.cell? _ = some (.int .i64 st) at e0
        change wr.cell? _ = some (.int .i64 si) at e4
        dsimp only at HD HF
        by_cases ht : t = p.now
        · have dt : (t == p.now) = true := by simpa using ht
          by_cases h1 : st = 1
          · have d1 : (st == 1) = true := by simpa using h1
            have hdue : isDue p plan k = true := by rw [HD.out, decide_eq_true hlt, decide_eq_true ht, decide_eq_true h1]; rfl
            have HE := hd_ (show L.set k ⟨3, wd, lg, cl, p.now, qu⟩ = stepTo (dueF p plan) p.ships (k + 1) by rw [<- HNX.out, HF.out, if_pos hdue])
            have HW := hd_ (HWY.out hkn hdue)
            clear HNX HSM HF HWY HWN HD hdue
            go_wp2_with fail
            go_region
            have hog2 := own_gone (w := wr) (x := 3) (y := p.now) ho' (show k < L.length by rw [hll]; exact hkn)
            rw [hgk] at hog2
            dsimp only at hog2
            rw [HE.out] at hog2
            have hll2 := step_len (dueF p plan) p.ships (k + 1)
            rw [hll2] at hog2
            have hP5 := ((hP.beside ⟨b, k * 6, none⟩ (.int .i64 3) (by simpa using hne)).beside ⟨b, k * 6 + 4, none⟩ (.int .i64 p.now) (by simpa using hne))
            have hZ5 := ((hZ.beside ⟨b, k * 6, none⟩ (.int .i64 3) (by simp; omega)).beside ⟨b, k * 6 + 4, none⟩ (.int .i64 p.now) (by simp; omega))
            have hB5 := ((hB.setCell (p := ⟨b, k * 6, none⟩) (by simp; omega) (.int .i64 3)).setCell (p := ⟨b, k * 6 + 4, none⟩) (by simp; omega) (.int .i64 p.now)).drew
            have h5a := own_one (own_one hown (OneRow.of_cell wr ⟨b, k * 6, none⟩ (.int .i64 3)) hbb) (OneRow.of_cell (wr.setCell ⟨b, k * 6, none⟩ (.int .i64 3)) ⟨b, k * 6 + 4, none⟩ (.int .i64 p.now)) hbb
            have hown5 : OwnI ((wr.setCell ⟨b, k * 6, none⟩ (.int .i64 3)).setCell ⟨b, k * 6 + 4, none⟩ (.int .i64 p.now)).drew w3.heap.size _ (natsI (whoTo p plan k)) := h5a
            clear h5a
            have hO5 : OwnK ((wr.setCell ⟨b, k * 6, none⟩ (.int .i64 3)).setCell ⟨b, k * 6 + 4, none⟩ (.int .i64 p.now)).drew (w.heap.size + 2) (.slice (some ⟨b, 0, none⟩) p.ships.length c2) (stepTo (dueF p plan) p.ships (k + 1)) := hog2
            have hP5' : PortAt ((wr.setCell ⟨b, k * 6, none⟩ (.int .i64 3)).setCell ⟨b, k * 6 + 4, none⟩ (.int .i64 p.now)).drew w.heap.size p (some ⟨b, 0, none⟩) c2 := hP5
            have hZ5' : PortAt ((wr.setCell ⟨b, k * 6, none⟩ (.int .i64 3)).setCell ⟨b, k * 6 + 4, none⟩ (.int .i64 p.now)).drew (w.heap.size + 1) Port.zero none 0 := hZ5
            have hs5 : ((wr.setCell ⟨b, k * 6, none⟩ (.int .i64 3)).setCell ⟨b, k * 6 + 4, none⟩ (.int .i64 p.now)).drew.heap.size = wr.heap.size := by simp [World.setCell]
            generalize ((wr.setCell ⟨b, k * 6, none⟩ (.int .i64 3)).setCell ⟨b, k * 6 + 4, none⟩ (.int .i64 p.now)).drew = w5 at *
            have hs6 : w3.heap.size <= w5.heap.size := by omega
            clear hs5
            have ho6 := hown5.alloc (.cells #[.int .i64 k] 3)
            have hh := heap_alloc_new w5 (.cells #[.int .i64 k] 3)
            clear hP hZ hB hog2 hP5 hZ5 e0 e4 i0 i4 q0 q1
            go_wp2_with (at_builtin; refine wpList_append_int rfl _ _ rfl w3.heap.size _ _ rfl ho6 w5.heap.size 1 k rfl hh (by rw [hnl]; omega) (by simp; omega) ?_; intro v' w' ho7 hg')
            go_roundw
            case rel =>
              refine ⟨k + 1, by omega, by go_num, own_grow (hO5.alloc _) hg' (fun x hx e => ?_), by rw [HW.out, natsI_snoc]; exact ho7, ?_, ?_, grown_below (hB5.alloc hB5.size _) hg' ho6 (by omega) (by simp; have := hB5.size; omega), Nat.le_trans (by simp; omega) hg'.size⟩
              · simp only [Value.ownBlock, Option.some.injEq] at hx
                have := oBk ho6 _ e.symm
                omega
              · exact (hg'.block _ (by have := hP5'.lt; simp; omega) (fun e => by have := oBk ho6 _ e.symm; omega)).trans (hP5'.alloc _)
              · exact (hg'.block _ (by have := hZ5'.lt; simp; omega) (fun e => by have := oBk ho6 _ e.symm; omega)).trans (hZ5'.alloc _)
            case measure => simp [intOf] <;> omega
          · have d1 : (st == 1) = false := by simpa using h1
            have hdue : isDue p plan k = false := by rw [HD.out, decide_eq_false h1]; simp
            have HE := hd_ (show stepTo (dueF p plan) p.ships (k + 1) = L from HSM.out (fun _ => by rw [HF.out, hdue]; rfl))
            have HW := hd_ (HWN.out (fun h => by rw [hdue] at h; cases h.2))
            clear HNX HSM HF HWY HWN HD hdue
            go_wp2_with fail
            go_roundw
            case rel => exact ⟨k + 1, by omega, by go_num, by rw [HE.out]; exact ho, by rw [HW.out]; exact hown, hP, hZ, hB, hsz⟩
            case measure => simp [intOf] <;> omega
        · have dt : (t == p.now) = false := by simpa using ht
          have hdue : isDue p plan k = false := by rw [HD.out, decide_eq_false ht]; simp
          have HE := hd_ (show stepTo (dueF p plan) p.ships (k + 1) = L from HSM.out (fun _ => by rw [HF.out, hdue]; rfl))
          have HW := hd_ (HWN.out (fun h => by rw [hdue] at h; cases h.2))
          clear HNX HSM HF HWY HWN HD hdue
          go_wp2_with fail
          go_roundw
          case rel => exact ⟨k + 1, by omega, by go_num, by rw [HE.out]; exact ho, by rw [HW.out]; exact hown, hP, hZ, hB, hsz⟩
          case measure => simp [intOf] <;> omega
      · have dk : decide ((k : Int) < (p.ships.length : Int)) = false := by simp; omega
        have HE := hd_ (show stepTo (dueF p plan) p.ships (k + 1) = stepTo (dueF p plan) p.ships k from HSM.out (fun h => absurd h hkn))
        have HW := hd_ (HWN.out (fun h => hkn h.1))
        clear HSM HF HWY HWN HD
        go_wp2_with fail
        go_roundw
        case rel => exact ⟨k + 1, by omega, by go_num, by rw [HE.out]; exact ho, by rw [HW.out]; exact hown, hP, hZ, hB, hsz⟩
        case measure => simp [intOf] <;> omega
    · obtain rfl : k = plan.length := by omega
      obtain ⟨B5, d5, hv⟩ := own_form hown
      subst hv
      have hwa := HWA.out
      rw [hwa] at hown hnl
      rw [hwa, hnl]
      go_wp2_with (first
        | (refine wLP (p := p) (A := A2) (c := c2) rfl rfl (by first | rfl | simp [aE, aP]) hP ?_)
        | (refine wSP rfl rfl (by first | rfl | simp [aE, aP]) (by first | rfl | simp [aE, aP]) hZ ?_; intro w4 hZ4 hr4))
      refine bodyPost_ret (results_port2 rfl _ _ (w.heap.size + 1) rfl hZ4) rfl ?_
      have ho5 := own_one ho hr4 (by omega)
      have hown4 := own_one hown hr4 (by omega)
      have hB6 := hB.trans (hr4.below (n := w.heap.size) (by omega))
      rw [<- HLS.out] at ho5
      have hl5 : (dueL p plan).ships.length = p.ships.length := by rw [HLS.out, step_len]
      have hfr : Fr (w.heap.size + 2) A2 := by
        rcases ho5.2 with ⟨hv, _⟩ | ⟨g, cap, cur, hv, hg, _⟩
        · injection hv with hA _ _; subst hA; exact Fr.none _
        · injection hv with hA _ _; subst hA; exact Fr.some hg
      refine ⟨A2, c2, B5, d5, ?_, ?_, ?_, hB6, hfr.mono (by omega)⟩
      · have e : portA (dueL p plan) A2 c2 = portA p A2 c2 := portA_ships p (dueL p plan).ships A2 c2 hl5
        rw [e]; rfl
      · unfold InP
        have := Sl.of_own (w := w4) (base := w.heap.size + 2) (e := 61) (size := 6) (A := A2) (n := (dueL p plan).ships.length) (c := c2) (by rw [hl5]; rw [hl5] at ho5; exact ho5)
        exact this
      · have := Sl.of_own hown4
        rw [hnl] at this
        exact this
end Go.Proofs.YtifmdkcpbajdcabGreatDoor

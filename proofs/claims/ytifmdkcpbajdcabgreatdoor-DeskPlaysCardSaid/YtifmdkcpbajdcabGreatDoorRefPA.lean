/- Walks: the document's answers: a port copied, numbers held against each other, a ship. -/
import Derived.Test.YtifmdkcpbajdcabGreatDoorTellQ
import Derived.Test.YtifmdkcpbajdcabGreatDoorRefW
import Derived.Test.YtifmdkcpbajdcabGreatDoorPortA
import Derived.Deep.DeepCutAuto
import Derived.BigQuiet
set_option linter.unusedVariables false
set_option linter.unusedSimpArgs false
set_option maxHeartbeats 40000000
namespace Go.Proofs.YtifmdkcpbajdcabGreatDoor
open Go.RowKit Go.Proofs Plain
open Go.Act renaming put -> aP, eval -> aE
open Go.Lib renaming hid -> hd_
theorem ne_facts' {x k : Int} (h : x ≠ k) : (x == k) = false /\ (x != k) = true /\ decide (x = k) = false := by
  refine ⟨by simpa using h, by simpa using h, by simpa using h⟩
theorem getD_ext' {l m : List Int} (hl : l.length = m.length) (h : ∀ i, i < l.length -> l.getD i 0 = m.getD i 0) : l = m := by
  apply List.ext_getElem hl
  intro i h1 h2
  have := h i h1
  simpa [List.getD_eq_getElem?_getD, h1, h2] using this
set_option maxRecDepth 100000 in
theorem copyP_any (p : Port) (A : Option Addr) (c : Nat) (w : World) (hin : InP w p A) (hm : p.ships.length <= maxLen) (hm2 : p.ships.length * 48 <= 140737488355328) :
    Calls Tryz.prog 44 #[.agg (portA p A c)] w (RetOwnP p w) := by
  obtain ⟨i0, hi0, hz0, hz1, hz2⟩ := info_parts ship_info
  have hP0 : PortAt ((w.alloc (.cells (portA p A c) 36)).alloc (.cells (portA Port.zero none 0) 36)) w.heap.size p A c := (PortAt.new w p A c).alloc _
  have hZ0 : PortAt ((w.alloc (.cells (portA p A c) 36)).alloc (.cells (portA Port.zero none 0) 36)) (w.heap.size + 1) Port.zero none 0 := by
    have := PortAt.new (w.alloc (.cells (portA p A c) 36)) Port.zero none 0
    simpa using this
  have hB0 : Below w.heap.size w ((w.alloc (.cells (portA p A c) 36)).alloc (.cells (portA Port.zero none 0) 36)) := ((Below.refl _ _).alloc (Nat.le_refl _) _).alloc (by simp) _
  have hS0 : Sl ((w.alloc (.cells (portA p A c) 36)).alloc (.cells (portA Port.zero none 0) 36)) 6 A p.ships.length (shC p.ships) := (Sl.alloc hin _).alloc _
  have q1 := hP0.ships
  have hlt := hP0.lt
  simp only [portA]
  go_enter Tryz.func44, Tryz.ntmps44
  go_wp2_with (first
    | (at_builtin; refine wpList_append_copy rfl _ _ 31 rfl (w.heap.size + 2) 61 i0 _ 6 48 Tryz.underlying31 hi0 hz0 hz1 hz2 rfl (by decide) rfl A p.ships.length c (shC p.ships) rfl hS0 (ship_one _) hm hm2 (by simp) ?_; intro v' w2 ho2 hb2; obtain ⟨A2, c2, rfl⟩ := own_form ho2; have hP2 := PortAt.below hP0 hb2 (by simp <;> omega); have hx1 := hP2.frozen 1; have hx2 := hP2.ships; have hZ2 := PortAt.below hZ0 hb2 (by simp <;> omega); have hB2 := bG_ hB0 hb2; have hP3 : PortAt (w2.setCell ⟨w.heap.size, 1, none⟩ (.slice A2 p.ships.length c2)) w.heap.size p A2 c2 := hP2.put 1 _ p A2 c2 rfl; have hZ3 := hZ2.beside ⟨w.heap.size, 1, none⟩ (.slice A2 p.ships.length c2) (by simp); have hB3 := hB2.setCell (p := ⟨w.heap.size, 1, none⟩) (Nat.le_refl _) (.slice A2 p.ships.length c2); have ho3 := own_one ho2 (OneRow.of_cell w2 ⟨w.heap.size, 1, none⟩ (.slice A2 p.ships.length c2)) (by simp <;> omega))
    | (refine wLP rfl rfl (by first | rfl | simp [aE, aP]) hP3 ?_)
    | (refine wSP rfl rfl (by first | rfl | simp [aE, aP]) (by first | rfl | simp [aE, aP]) hZ3 ?_; intro w4 hZ4 hr4))
  refine bodyPost_ret (results_port rfl _ _ (w.heap.size + 1) rfl hZ4) rfl ?_
  exact ⟨A2, c2, rfl, own_weak (own_one ho3 hr4 (by omega)) (by omega), hB3.trans (hr4.below (by omega))⟩
set_option maxRecDepth 100000 in
theorem sameInts_any (l m : List Int) (A B : Option Addr) (c d : Nat) (w : World) (h1 : Sl w 1 A l.length (l.map (Value.int .i64))) (h2 : Sl w 1 B m.length (m.map (Value.int .i64))) (hl : l.length <= 100000) (hm : m.length <= 100000) :
    Calls Tryz.prog 21 #[.slice A l.length c, .slice B m.length d] w fun e w' => e = .returned (.bool (decide (l = m))) /\ Below w.heap.size w w' := by
  by_cases hlen : l.length = m.length
  · have HLN := hd_ hlen
    rw [<- hlen] at h2 ⊢
    clear hlen
    have t0 : (((l.length : Nat) : Int) != (l.length : Int)) = false := by simp
    go_enter Tryz.func21, Tryz.ntmps21
    go_wp2_with fail
    go_loopw [13] (fun i wr => ∃ k n : Nat, k <= l.length /\ i = .int .i64 k /\ wr = w.drewN n /\ ∀ j, j < k -> l.getD j 0 = m.getD j 0) (fun i _ => l.length - (intOf i).toNat)
    case atStart => exact ⟨0, 0, Nat.zero_le _, rfl, rfl, fun j hj => absurd hj (by omega)⟩
    case round =>
      obtain ⟨k, n, hk, rfl, rfl, hall⟩ := hrel
      have HAL := hd_ hall
      clear hall
      by_cases hlt : k < l.length
      · obtain ⟨b3, off3, hA3, hbl3, hc3⟩ := ints_at h1 (by omega)
        subst hA3
        have e3 := hc3 k hlt
        obtain ⟨b5, off5, hA5, hbl5, hc5⟩ := ints_at (l := m) (by rw [<- HLN.out]; exact h2) (by rw [<- HLN.out]; omega)
        subst hA5
        have e5 := hc5 k (by rw [<- HLN.out]; exact hlt)
        clear hc3 hc5
        by_cases he : l.getD k 0 = m.getD k 0
        · have HNX := hd_ (show ∀ j, j < k + 1 -> l.getD j 0 = m.getD j 0 from fun j hj => by
            rcases (by omega : j < k \/ j = k) with h | rfl
            · exact HAL.out j h
            · exact he)
          rw [<- he] at e5
          clear he
          generalize l.getD k 0 = t at *
          have t2 : (t != t) = false := by simp
          go_wp2_with fail
          go_quiet (fail)
          go_wp2_with fail
          go_roundw
          case rel => exact ⟨k + 1, n + nq, by omega, by go_num, by first | trivial | rw [World.drewN_drewN], HNX.out⟩
          case measure => simp [intOf] <;> omega
        · have HNO := hd_ (show decide (l = m) = false by simp only [decide_eq_false_iff_not]; rintro rfl; exact he rfl)
          generalize l.getD k 0 = t at *
          generalize m.getD k 0 = u at *
          obtain ⟨a1, a2, a3⟩ := ne_facts' he
          go_wp2_with fail
          go_quiet (fail)
          go_wp2_with fail
          go_ret
          exact ⟨rtB HNO.out.symm, bdN (bdN (Below.refl _ _) _) _⟩
      · obtain rfl : k = l.length := by omega
        have HYES := hd_ (show decide (l = m) = true by simp only [decide_eq_true_eq]; exact getD_ext' HLN.out HAL.out)
        go_wp2_with fail
        go_ret
        exact ⟨rtB HYES.out.symm, bdN (Below.refl _ _) _⟩
  · have HNO := hd_ (show decide (l = m) = false by simp only [decide_eq_false_iff_not]; rintro rfl; exact hlen rfl)
    have t0 : (((l.length : Nat) : Int) != (m.length : Int)) = true := by simp; omega
    go_enter Tryz.func21, Tryz.ntmps21
    go_wp2_with fail
    go_ret
    exact ⟨rtB HNO.out.symm, Below.refl _ _⟩
def shipOk5 (s : Ship) : Bool := inB s.state 1 4 && inB s.wide 1 16 && inB s.long 1 300 && inB s.cls 0 3 && decide (0 <= s.queued)
theorem shipB_not {s : Ship} {now : Int} (h : shipOk5 s = false) : shipB s now = false := by unfold shipB; unfold shipOk5 at h; rw [h]; rfl
theorem shipB_yes {s : Ship} {now : Int} (h : shipOk5 s = true) :
    shipB s now = (if s.state = 3 then decide (0 <= s.since) && decide (s.since <= now) && decide (now < s.since + s.long) && decide (s.since + s.long <= 300) else decide (s.since = 0)) := by unfold shipB; unfold shipOk5 at h; rw [h]; rfl
theorem ok5_long {s : Ship} (h : shipOk5 s = true) : 1 <= s.long /\ s.long <= 300 := by
  unfold shipOk5 at h
  simp only [Bool.and_eq_true] at h
  exact (inB_iff _ _ _).1 h.1.1.2
theorem iBW {n lo hi : Int} {b : Bool} (h : inB n lo hi = b) : (decide (lo <= n) && decide (n <= hi)) = b := h
set_option maxRecDepth 100000 in
theorem isShip_any (s : Ship) (now : Int) (w : World) (hn : i64 now) :
    Calls Tryz.prog 105 #[.agg (shipV s), .int .i64 now] w fun e w' => e = .returned (.bool (shipB s now)) /\ Below w.heap.size w w' := by
  have HNO := hd_ (@shipB_not s now)
  have HYES := hd_ (@shipB_yes s now)
  have HLG := hd_ (@ok5_long s)
  have H5 := hd_ (show shipOk5 s = (inB s.state 1 4 && inB s.wide 1 16 && inB s.long 1 300 && inB s.cls 0 3 && decide (0 <= s.queued)) from rfl)
  generalize shipB s now = R at *
  generalize shipOk5 s = K at *
  obtain ⟨st, wd, lg, cl, si, qu⟩ := s
  dsimp only at HNO HYES HLG H5
  unfold i64 at hn
  simp only [shipV]
  go_enter Tryz.func105, Tryz.ntmps105
  go_upto_region 1 with fail
  go_cut [5] (fun v5 wq => v5 = .bool K /\ wq = w.alloc (.cells #[.int .i64 st, .int .i64 wd, .int .i64 lg, .int .i64 cl, .int .i64 si, .int .i64 qu] 61))
  case first => as_aux_lemma =>
    cases h1 : inB st 1 4
    · have HA := hd_ (iBW h1)
      have E := hd_ (show K = false by rw [H5.out, h1]; rfl)
      clear h1 H5 HNO HYES HLG
      go_wp2_with (go_at_call 41; (with_reducible refine (wI_ _ HA.out).mono ?_); rintro e w' ⟨rfl, rfl⟩)
      go_meet
      exact ⟨by rw [E.out], rfl⟩
    · cases h2 : inB wd 1 16
      · have HA := hd_ (iBW h1)
        have HB := hd_ (iBW h2)
        have E := hd_ (show K = false by rw [H5.out, h1, h2]; rfl)
        clear h1 h2 H5 HNO HYES HLG
        go_wp2_with (first
          | (go_at_call 41; (with_reducible refine (wI_ _ HA.out).mono ?_); rintro e w' ⟨rfl, rfl⟩)
          | (go_at_call 41; (with_reducible refine (wI_ _ HB.out).mono ?_); rintro e w' ⟨rfl, rfl⟩))
        go_meet
        exact ⟨by rw [E.out], rfl⟩
      · cases h3 : inB lg 1 300
        · have HA := hd_ (iBW h1)
          have HB := hd_ (iBW h2)
          have HC := hd_ (iBW h3)
          have E := hd_ (show K = false by rw [H5.out, h1, h2, h3]; rfl)
          clear h1 h2 h3 H5 HNO HYES HLG
          go_wp2_with (first
            | (go_at_call 41; (with_reducible refine (wI_ _ HA.out).mono ?_); rintro e w' ⟨rfl, rfl⟩)
            | (go_at_call 41; (with_reducible refine (wI_ _ HB.out).mono ?_); rintro e w' ⟨rfl, rfl⟩)
            | (go_at_call 41; (with_reducible refine (wI_ _ HC.out).mono ?_); rintro e w' ⟨rfl, rfl⟩))
          go_meet
          exact ⟨by rw [E.out], rfl⟩
        · cases h4 : inB cl 0 3
          · have HA := hd_ (iBW h1)
            have HB := hd_ (iBW h2)
            have HC := hd_ (iBW h3)
            have HD := hd_ (iBW h4)
            have E := hd_ (show K = false by rw [H5.out, h1, h2, h3, h4]; rfl)
            clear h1 h2 h3 h4 H5 HNO HYES HLG
            go_wp2_with (first
              | (go_at_call 41; (with_reducible refine (wI_ _ HA.out).mono ?_); rintro e w' ⟨rfl, rfl⟩)
              | (go_at_call 41; (with_reducible refine (wI_ _ HB.out).mono ?_); rintro e w' ⟨rfl, rfl⟩)
              | (go_at_call 41; (with_reducible refine (wI_ _ HC.out).mono ?_); rintro e w' ⟨rfl, rfl⟩)
              | (go_at_call 41; (with_reducible refine (wI_ _ HD.out).mono ?_); rintro e w' ⟨rfl, rfl⟩))
            go_meet
            exact ⟨by rw [E.out], rfl⟩
          · have HA := hd_ (iBW h1)
            have HB := hd_ (iBW h2)
            have HC := hd_ (iBW h3)
            have HD := hd_ (iBW h4)
            have E := hd_ (show K = decide (0 <= qu) by rw [H5.out, h1, h2, h3, h4]; simp)
            clear h1 h2 h3 h4 H5 HNO HYES HLG
            go_wp2_with (first
              | (go_at_call 41; (with_reducible refine (wI_ _ HA.out).mono ?_); rintro e w' ⟨rfl, rfl⟩)
              | (go_at_call 41; (with_reducible refine (wI_ _ HB.out).mono ?_); rintro e w' ⟨rfl, rfl⟩)
              | (go_at_call 41; (with_reducible refine (wI_ _ HC.out).mono ?_); rintro e w' ⟨rfl, rfl⟩)
              | (go_at_call 41; (with_reducible refine (wI_ _ HD.out).mono ?_); rintro e w' ⟨rfl, rfl⟩))
            go_meet
            exact ⟨by rw [E.out], rfl⟩
  obtain ⟨rfl, rfl⟩ := hcut
  have hB : Below w.heap.size w (w.alloc (.cells #[.int .i64 st, .int .i64 wd, .int .i64 lg, .int .i64 cl, .int .i64 si, .int .i64 qu] 61)) := (Below.refl _ _).alloc (Nat.le_refl _) _
  cases K with
  | false =>
    have HR := hd_ (HNO.out rfl)
    clear HNO HYES HLG H5
    by_cases h3 : st = 3
    · subst h3
      go_wp2_with fail
      go_ret
      exact ⟨rtB HR.out.symm, hB⟩
    · obtain ⟨a1, a2, a3⟩ := ne_facts' h3
      go_wp2_with fail
      go_ret
      exact ⟨rtB HR.out.symm, hB⟩
  | true =>
    have HR := hd_ (HYES.out rfl)
    obtain ⟨l1, l2⟩ := HLG.out rfl
    clear HNO HYES HLG H5
    by_cases h3 : st = 3
    · subst h3
      by_cases c1 : 0 <= si /\ si <= min now 300
      · have HA := hd_ (show (decide (0 <= si) && decide (si <= min now 300)) = true by simp [c1.1]; omega)
        have b1 := c1.1
        have b2 : si <= 300 := by omega
        have b3 : si <= now := by omega
        clear c1
        by_cases c2 : now < si + lg
        · have d2 : decide (si + lg > now) = true := by simpa using c2
          have HV := hd_ (show R = decide (si + lg <= 300) by rw [HR.out]; simp [b1, b3, c2])
          clear HR
          go_wp2_with (go_at_call 41; (with_reducible refine (wI_ _ HA.out).mono ?_); rintro e w' ⟨rfl, rfl⟩)
          go_ret
          exact ⟨rtB HV.out.symm, hB⟩
        · have d2 : decide (si + lg > now) = false := by simpa using c2
          have HV := hd_ (show R = false by rw [HR.out]; simp; omega)
          clear HR
          go_wp2_with (go_at_call 41; (with_reducible refine (wI_ _ HA.out).mono ?_); rintro e w' ⟨rfl, rfl⟩)
          go_ret
          exact ⟨rtB HV.out.symm, hB⟩
      · have HA := hd_ (show (decide (0 <= si) && decide (si <= min now 300)) = false by simp; omega)
        have HV := hd_ (show R = false by rw [HR.out]; simp; omega)
        clear HR c1
        go_wp2_with (go_at_call 41; (with_reducible refine (wI_ _ HA.out).mono ?_); rintro e w' ⟨rfl, rfl⟩)
        go_ret
        exact ⟨rtB HV.out.symm, hB⟩
    · obtain ⟨a1, a2, a3⟩ := ne_facts' h3
      have HV := hd_ (show R = decide (si = 0) by rw [HR.out, if_neg h3])
      clear HR
      go_wp2_with fail
      go_ret
      exact ⟨rtB (by rw [HV.out]; first | rfl | (rw [Bool.eq_iff_iff]; simp)), hB⟩
structure BS (w wr : World) (p : Port) (A : Option Addr) (c gA gB : Nat) (fs : List Int) : Prop where
  port : PortAt wr w.heap.size p A c
  tab : Arr wr gB fs
  res : Arr wr gA zeros
  below : Below w.heap.size w wr
  lo : w.heap.size < gA
  lt : gA < gB
section
variable {w wr w' : World} {p : Port} {A : Option Addr} {c gA gB : Nat} {fs : List Int}
theorem BS.alloc (h : BS w wr p A c gA gB fs) (o : Obj) : BS w (wr.alloc o) p A c gA gB fs := ⟨h.port.alloc o, h.tab.alloc o, h.res.alloc o, h.below.alloc h.below.size o, h.lo, h.lt⟩
theorem BS.drewN (h : BS w wr p A c gA gB fs) (n : Nat) : BS w (wr.drewN n) p A c gA gB fs := ⟨h.port, h.tab.drewN n, h.res.drewN n, bdN h.below n, h.lo, h.lt⟩
theorem BS.set (h : BS w wr p A c gA gB fs) (t : Nat) (v : Int) : BS w (wr.setCell ⟨gB, t, none⟩ (.int .i64 v)) p A c gA gB (fs.set t v) := by
  have h1 := h.lo
  have h2 := h.lt
  exact ⟨h.port.beside _ _ (by simp; omega), h.tab.set t v, h.res.beside _ _ (by simp; omega), h.below.setCell (by simp; omega) _, h1, h2⟩
end
def lieTo (p : Port) (t : Nat) (k : Nat) : Int := sumTo (fun i => lieAt (p.ship i) t) k
def keptSum (p : Port) (t : Nat) (k : Nat) : Int := sumTo (fun i => keptAt (p.keep i) t) k
def okTo (p : Port) (t : Nat) : Bool := decide (∀ u, u < t -> 0 <= freeOf p (u : Nat))
theorem okTo_next (p : Port) (t : Nat) : okTo p (t + 1) = (okTo p t && decide (0 <= freeOf p t)) := by
  unfold okTo
  rw [Bool.eq_iff_iff]
  simp only [decide_eq_true_eq, Bool.and_eq_true]
  constructor
  · intro h; exact ⟨fun u hu => h u (by omega), h t (by omega)⟩
  · rintro ⟨h1, h2⟩ u hu
    rcases (by omega : u < t \/ u = t) with h | rfl
    · exact h1 u h
    · exact h2
theorem okTo_all {p : Port} (h : Plain.Fair p) : okTo p 300 = (baseL p).2 := by
  rw [Bool.eq_iff_iff, (base_good h).1]
  unfold okTo
  rw [decide_eq_true_eq]
  constructor
  · intro g u u0 u1
    have := g u.toNat (by omega)
    rwa [show ((u.toNat : Nat) : Int) = u by omega] at this
  · intro g u hu; exact g u (by omega) (by omega)
theorem lie_range {p : Port} (h : Plain.Fair p) (t : Nat) : ∀ k, k <= p.ships.length -> 0 <= lieTo p t k /\ lieTo p t k <= 16 * k
  | 0, _ => by simp [lieTo, sumTo]
  | k + 1, hk => by
    have ih := lie_range h t k (by omega)
    have hs := ((h.ship k (by omega)).1).wide
    unfold lieTo at ih ⊢
    rw [sumTo]
    have : 0 <= lieAt (p.ship k) t /\ lieAt (p.ship k) t <= 16 := by unfold lieAt; split <;> omega
    omega
theorem kept_range {p : Port} (h : Plain.Fair p) (t : Nat) : ∀ k, k <= 4 -> 0 <= keptSum p t k /\ keptSum p t k <= 16 * k
  | 0, _ => by simp [keptSum, sumTo]
  | k + 1, hk => by
    have ih := kept_range h t k (by omega)
    have hs := h.kept k (by omega)
    unfold KeptOk at hs
    unfold keptSum at ih ⊢
    rw [sumTo]
    have : 0 <= keptAt (p.keep k) t /\ keptAt (p.keep k) t <= 16 := by unfold keptAt; split <;> omega
    omega
theorem free_late {p : Port} {t : Nat} (h : p.now <= t) : freeOf p t = 16 - p.shut - lieTo p t p.ships.length - keptSum p t 4 := by
  unfold freeOf lieTo keptSum; rw [if_pos h]; omega
theorem free_early {p : Port} {t : Nat} (h : ¬ p.now <= t) : freeOf p t = 16 - p.shut := by unfold freeOf; rw [if_neg h]; omega
def RetBase (p : Port) (w : World) (e : Ending) (w' : World) : Prop :=
  ∃ fs : List Int, fs.length = 300 /\ (∀ u : Nat, u < 300 -> fs.getD u 0 = freeOf p u) /\ e = .returned (.tuple #[.agg (arr fs), .bool (baseL p).2]) /\ Below w.heap.size w w'
theorem set_get (fs : List Int) (t : Nat) (h : fs.length = 300) (ht : t < 300) (u : Nat) (v : Int) : (fs.set t v).getD u 0 = if u = t then v else fs.getD u 0 := getD_set' fs t u v (by omega)
set_option maxRecDepth 100000 in
theorem baseOf_any (p : Port) (A : Option Addr) (c : Nat) (w : World) (hf : Plain.Fair p) (hin : InP w p A) :
    Calls Tryz.prog 47 #[.agg (portA p A c)] w (RetBase p w) := by
  have hn := hf.now
  have hsh := hf.shut
  have hlen := hf.len
  have HF := hd_ hf
  clear hf
  have hP0 : PortAt (w.alloc (.cells (portA p A c) 36)) w.heap.size p A c := PortAt.new w p A c
  have hB0 : Below w.heap.size w (w.alloc (.cells (portA p A c) 36)) := (Below.refl _ _).alloc (Nat.le_refl _) _
  simp only [portA] at hP0 hB0 ⊢
  go_enter Tryz.func47, Tryz.ntmps47
  go_wp2_with (first
    | (have _ := hAlaid; refine wAA rfl rfl ?_; intro wB gB b1 b2 hB hbB)
    | (refine wAA rfl rfl ?_; intro wA gA a1 a2 hA hbA; have hAlaid := True.intro))
  have hS : BS w wB p A c gA gB zeros := ⟨(PortAt.below (p := p) (A := A) (c := c) hP0 hbA (by simp)).below hbB (by have := hbA.size; simp at this; omega), hB, hA.below hbB a2, (bG_ (bG_ hB0 hbA) hbB), by simp at a1; omega, by omega⟩
  clear hP0 hB0 hA hB hbA hbB a1 a2 b1 b2 hAlaid
  go_loopw [11, 5] (fun i x5 wr => ∃ (t : Nat) (fs : List Int), t <= 300 /\ i = .int .i64 t /\ x5 = .bool (okTo p t) /\ BS w wr p A c gA gB fs /\ ∀ u, u < t -> fs.getD u 0 = freeOf p (u : Nat)) (fun i _ _ => 300 - (intOf i).toNat)
  case atStart => exact ⟨0, zeros, by omega, rfl, rfl, hS, fun u hu => absurd hu (by omega)⟩
  case round =>
    clear hS
    obtain ⟨t, fs, ht, rfl, rfl, hS, hall⟩ := hrel
    have HAL := hd_ hall
    clear hall
    have q0 := hS.port.now
    have q1 := hS.port.ships
    have q2 := hS.port.shut
    have q3 := hS.port.lt
    have q4 := hS.tab.lt
    have q5 := hS.lo
    have q6 := hS.lt
    by_cases hlt : t < 300
    · have c0 := hS.tab.cell t hlt
      have f0 := hS.tab.frozen t
      have hX0 := hS.set t (16 - p.shut)
      have HL0 := hd_ hS.tab.len
      have HFG := hd_ (set_get fs t HL0.out hlt)
      obtain ⟨X, hX⟩ : ∃ X : Int, freeOf p t = X := ⟨_, rfl⟩
      have HX := hd_ hX
      have HON := hd_ (okTo_next p t)
      rw [hX] at HON
      clear hX
      have HLT := hd_ (@free_late p t)
      have HER := hd_ (@free_early p t)
      have hXr : -400 <= X /\ X <= 400 := by
        rw [<- HX.out]
        have h1 := lie_range HF.out t p.ships.length (Nat.le_refl _)
        have h2 := kept_range HF.out t 4 (Nat.le_refl _)
        by_cases h : p.now <= t
        · rw [free_late h]; omega
        · rw [free_early h]; omega
      have HEND := hd_ (show ∀ gs : List Int, gs = fs.set t X -> ∀ u, u < t + 1 -> gs.getD u 0 = freeOf p (u : Nat) from fun gs hg u hu => by
        subst hg
        rw [HFG.out]
        by_cases e : u = t
        · subst e; rw [if_pos rfl, HX.out]
        · rw [if_neg e]; exact HAL.out u (by omega))
      go_upto_if 22 with fail
      go_cut [4] (fun x4 wq => x4 = .pointer (some ⟨gB, 0, none⟩) /\ BS w wq p A c gA gB (fs.set t X))
      case first => as_aux_lemma =>
        by_cases hnow : p.now <= t
        · have d1 : decide ((t : Int) >= p.now) = true := by simpa using hnow
          have HXE := hd_ (HX.out.symm.trans (HLT.out hnow))
          have p1 := hX0.port.ships
          have p2 := hX0.port.lt
          go_wp2_with fail
          go_loopw [26] (fun i wi => ∃ k : Nat, k <= p.ships.length /\ i = .int .i64 k /\ BS w wi p A c gA gB (fs.set t (16 - p.shut - lieTo p t k))) (fun i _ => p.ships.length - (intOf i).toNat)
          case atStart => exact ⟨0, Nat.zero_le _, rfl, by simpa [lieTo, sumTo] using hX0⟩
          case round =>
            clear hX0 p1 p2 c0 f0 q0 q1 q2 q3 q4
            obtain ⟨k, hk, rfl, hS1⟩ := hrel
            have q3 := hS1.port.lt
            have q4 := hS1.tab.lt
            have c1 := hS1.tab.cell t hlt
            have f1 := hS1.tab.frozen t
            rw [HFG.out, if_pos rfl] at c1
            have hr := lie_range HF.out t k hk
            by_cases hkl : k < p.ships.length
            · obtain ⟨b, off, hA, hbl, hcells⟩ := ships_at (Sl.below hin hS1.below) (by omega)
              subst hA
              obtain ⟨d1', d2, d3, d4, d5, d6⟩ := hcells k hkl
              clear hcells
              have HS2 := hd_ (show ∀ v : Int, (fs.set t (16 - p.shut - lieTo p t k)).set t v = fs.set t v from fun v => by rw [List.set_set])
              have HNX := hd_ (show lieTo p t (k + 1) = lieTo p t k + lieAt (p.ship k) t from rfl)
              have hso := (HF.out.ship k hkl).1
              have hw := hso.wide
              have hlg := hso.long
              have hsi : 0 <= (p.ship k).since /\ (p.ship k).since <= 300 := by
                by_cases e : (p.ship k).state = 3
                · have := hso.lies e; omega
                · have := hso.other e; omega
              have HLA := hd_ (show lieAt (p.ship k) t = if (p.ship k).state = 3 /\ (t : Int) < (p.ship k).since + (p.ship k).long then (p.ship k).wide else 0 from rfl)
              clear hso
              change wr.cell? _ = some (.int .i64 (p.ship k).state) at d1'
              change wr.cell? _ = some (.int .i64 (p.ship k).wide) at d2
              change wr.cell? _ = some (.int .i64 (p.ship k).long) at d3
              change wr.cell? _ = some (.int .i64 (p.ship k).cls) at d4
              change wr.cell? _ = some (.int .i64 (p.ship k).since) at d5
              change wr.cell? _ = some (.int .i64 (p.ship k).queued) at d6
              generalize lieAt (p.ship k) t = L at *
              generalize p.ship k = x at *
              obtain ⟨sst, wd, lg, cl, si, qu⟩ := x
              dsimp only at *
              by_cases e3 : sst = 3
              · subst e3
                by_cases hlie : (t : Int) < si + lg
                · have HL1 := hd_ (show lieTo p t (k + 1) = lieTo p t k + wd by rw [HNX.out, HLA.out, if_pos ⟨rfl, hlie⟩])
                  have t2 : decide ((t : Int) < si + lg) = true := by simpa using hlie
                  have HBS := hd_ hS1
                  clear HNX HLA hS1
                  go_wp2_with fail
                  go_region
                  all_goals
                    go_wp2_with fail
                    go_roundw
                    case rel => exact ⟨k + 1, by omega, by go_num, by
                      have := ((HBS.out.set t (16 - p.shut - lieTo p t k - wd)).alloc (.cells #[.int .i64 3, .int .i64 wd, .int .i64 lg, .int .i64 cl, .int .i64 si, .int .i64 qu] 61)).drewN 1
                      rw [HS2.out] at this
                      rw [HL1.out, show 16 - p.shut - (lieTo p t k + wd) = 16 - p.shut - lieTo p t k - wd by omega]
                      exact this⟩
                    case measure => simp [intOf] <;> omega
                · have HL1 := hd_ (show lieTo p t (k + 1) = lieTo p t k by rw [HNX.out, HLA.out, if_neg (fun h => hlie h.2)]; omega)
                  have t2 : decide ((t : Int) < si + lg) = false := by simpa using hlie
                  clear HNX HLA
                  go_wp2_with fail
                  go_roundw
                  case rel => exact ⟨k + 1, by omega, by go_num, by rw [HL1.out]; exact hS1.alloc _⟩
                  case measure => simp [intOf] <;> omega
              · have HL1 := hd_ (show lieTo p t (k + 1) = lieTo p t k by rw [HNX.out, HLA.out, if_neg (fun h => e3 h.1)]; omega)
                obtain ⟨a1, a2, a3⟩ := ne_facts' e3
                clear HNX HLA
                go_wp2_with fail
                go_roundw
                case rel => exact ⟨k + 1, by omega, by go_num, by rw [HL1.out]; exact hS1.alloc _⟩
                case measure => simp [intOf] <;> omega
            · obtain rfl : k = p.ships.length := by omega
              have hk0 := hS1.port.cell 2
              have hk1 := hS1.port.cell 3
              have hk2 := hS1.port.cell 4
              have hk3 := hS1.port.cell 5
              have hk4 := hS1.port.cell 6
              have hk5 := hS1.port.cell 7
              have hk6 := hS1.port.cell 8
              have hk7 := hS1.port.cell 9
              have hk8 := hS1.port.cell 10
              have hk9 := hS1.port.cell 11
              have hk10 := hS1.port.cell 12
              have hk11 := hS1.port.cell 13
              simp only [portA] at hk0 hk1 hk2 hk3 hk4 hk5 hk6 hk7 hk8 hk9 hk10 hk11
              obtain ⟨Y, hY⟩ : ∃ Y, 16 - p.shut - lieTo p t p.ships.length = Y := ⟨_, rfl⟩
              have hYr : -400 <= Y /\ Y <= 400 := by omega
              rw [hY] at hS1 c1 HXE
              clear hY hr c1
              go_wp2_with fail
              go_loopw [52] (fun i wi => ∃ m : Nat, m <= 4 /\ i = .int .i64 m /\ BS w wi p A c gA gB (fs.set t (Y - keptSum p t m))) (fun i _ => 4 - (intOf i).toNat)
              case atStart => exact ⟨0, by omega, rfl, by simpa [keptSum, sumTo] using hS1⟩
              case round =>
                clear hk0 hk1 hk2 hk3 hk4 hk5 hk6 hk7 hk8 hk9 hk10 hk11 hS1 q3 q4 f1
                obtain ⟨m, hm, rfl, hS1⟩ := hrel
                have q3 := hS1.port.lt
                have q4 := hS1.tab.lt
                have c1 := hS1.tab.cell t hlt
                have f1 := hS1.tab.frozen t
                rw [HFG.out, if_pos rfl] at c1
                have hr := kept_range HF.out t m hm
                by_cases hml : m < 4
                · have HS2 := hd_ (show ∀ v : Int, (fs.set t (Y - keptSum p t m)).set t v = fs.set t v from fun v => by rw [List.set_set])
                  have HNX := hd_ (show keptSum p t (m + 1) = keptSum p t m + keptAt (p.keep m) t from rfl)
                  have HKA := hd_ (show keptAt (p.keep m) t = if (p.keep m).fr <= t /\ (t : Int) < (p.keep m).to then (p.keep m).wide else 0 from rfl)
                  have hko := HF.out.kept m hml
                  unfold KeptOk at hko
                  have hkr : 0 <= (p.keep m).wide /\ (p.keep m).wide <= 16 /\ 0 <= (p.keep m).fr /\ (p.keep m).fr <= 300 /\ 0 <= (p.keep m).to /\ (p.keep m).to <= 300 := by omega
                  clear hko
                  obtain ⟨wd, hwd⟩ : ∃ x, (p.keep m).wide = x := ⟨_, rfl⟩
                  obtain ⟨fr, hfr⟩ : ∃ x, (p.keep m).fr = x := ⟨_, rfl⟩
                  obtain ⟨tt, htt⟩ : ∃ x, (p.keep m).to = x := ⟨_, rfl⟩
                  have HK := hd_ (show (Value.agg #[.int .i64 (p.keep m).wide, .int .i64 (p.keep m).fr, .int .i64 (p.keep m).to]) = .agg #[.int .i64 wd, .int .i64 fr, .int .i64 tt] by rw [hwd, hfr, htt])
                  rw [hwd, hfr, htt] at HKA hkr
                  generalize keptAt (p.keep m) t = L at *
                  clear hwd hfr htt
                  by_cases e1 : fr <= (t : Int)
                  · by_cases e2 : (t : Int) < tt
                    · have HL1 := hd_ (show keptSum p t (m + 1) = keptSum p t m + wd by rw [HNX.out, HKA.out, if_pos ⟨e1, e2⟩])
                      have t1 : decide ((t : Int) >= fr) = true := by simpa using e1
                      have t2 : decide ((t : Int) < tt) = true := by simpa using e2
                      have HBS := hd_ hS1
                      clear HNX HKA hS1
                      go_wp2_with (refine wIK (p := p) (k := m) rfl rfl rfl rfl hml ?_; rw [HK.out])
                      go_region
                      all_goals
                        go_wp2_with fail
                        go_roundw
                        case rel => exact ⟨m + 1, by omega, by go_num, by
                          have := ((HBS.out.set t (Y - keptSum p t m - wd)).alloc (.cells #[.int .i64 wd, .int .i64 fr, .int .i64 tt] 33)).drewN 1
                          rw [HS2.out] at this
                          rw [HL1.out, show Y - (keptSum p t m + wd) = Y - keptSum p t m - wd by omega]
                          exact this⟩
                        case measure => simp [intOf] <;> omega
                    · have HL1 := hd_ (show keptSum p t (m + 1) = keptSum p t m by rw [HNX.out, HKA.out, if_neg (fun h => e2 h.2)]; omega)
                      have t1 : decide ((t : Int) >= fr) = true := by simpa using e1
                      have t2 : decide ((t : Int) < tt) = false := by simpa using e2
                      clear HNX HKA
                      go_wp2_with (refine wIK (p := p) (k := m) rfl rfl rfl rfl hml ?_; rw [HK.out])
                      go_roundw
                      case rel => exact ⟨m + 1, by omega, by go_num, by rw [HL1.out]; exact hS1.alloc _⟩
                      case measure => simp [intOf] <;> omega
                  · have HL1 := hd_ (show keptSum p t (m + 1) = keptSum p t m by rw [HNX.out, HKA.out, if_neg (fun h => e1 h.1)]; omega)
                    have t1 : decide ((t : Int) >= fr) = false := by simpa using e1
                    clear HNX HKA
                    go_wp2_with (refine wIK (p := p) (k := m) rfl rfl rfl rfl hml ?_; rw [HK.out])
                    go_roundw
                    case rel => exact ⟨m + 1, by omega, by go_num, by rw [HL1.out]; exact hS1.alloc _⟩
                    case measure => simp [intOf] <;> omega
                · obtain rfl : m = 4 := by omega
                  go_wp2_with fail
                  go_meet
                  exact ⟨rfl, by rw [HXE.out]; exact hS1⟩
        · have d1 : decide ((t : Int) >= p.now) = false := by simpa using hnow
          have HXE := hd_ (HX.out.symm.trans (HER.out hnow))
          go_wp2_with fail
          go_meet
          exact ⟨rfl, by rw [HXE.out]; exact hX0⟩
      obtain ⟨rfl, hS1⟩ := hcut
      clear hX0 c0 f0 q0 q1 q2 q3 q4
      have q4 := hS1.tab.lt
      have c1 := hS1.tab.cell t hlt
      rw [HFG.out, if_pos rfl] at c1
      cases hok : okTo p t with
      | true =>
        have HO := hd_ (show okTo p (t + 1) = decide (0 <= X) by rw [HON.out, hok]; rfl)
        clear hok
        go_wp2_with fail
        go_roundw
        case rel => exact ⟨t + 1, _, by omega, by go_num, by rw [HO.out], hS1, HEND.out _ rfl⟩
        case measure => simp [intOf] <;> omega
      | false =>
        have HO := hd_ (show okTo p (t + 1) = false by rw [HON.out, hok]; rfl)
        clear hok
        go_wp2_with fail
        go_roundw
        case rel => exact ⟨t + 1, _, by omega, by go_num, by rw [HO.out], hS1, HEND.out _ rfl⟩
        case measure => simp [intOf] <;> omega
    · obtain rfl : t = 300 := by omega
      have HOK := hd_ (okTo_all HF.out)
      go_wp2_with (first
        | (refine wpList_load_arr rfl rfl (by first | rfl | simp [aE, aP]) hS.tab ?_)
        | (refine wSA rfl rfl (by first | rfl | simp [aE, aP]) (by first | rfl | simp [aE, aP]) hS.res hS.tab.len ?_; intro w3 hA3 hr3))
      refine bodyPost_ret (results_arr rfl _ _ gA _ rfl hA3) rfl ?_
      exact ⟨fs, hS.tab.len, fun u hu => HAL.out u hu, by rw [<- HOK.out]; rfl, hS.below.trans (hr3.below (by omega))⟩
end Go.Proofs.YtifmdkcpbajdcabGreatDoor

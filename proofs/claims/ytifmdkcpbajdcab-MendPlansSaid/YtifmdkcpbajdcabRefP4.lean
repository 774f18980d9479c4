/- Walks: the document's answers: what is free of a port. -/
import Derived.Test.YtifmdkcpbajdcabRefP3
namespace Go.Proofs.Ytifmdkcpbajdcab
open Go.RowKit Go.Proofs Plain

/-- What stands while it is reckoned. -/
structure BS (w wr : World) (p : Port) (A : Option Addr) (c gA gB : Nat) (fs : List Int) : Prop where
  port : PortAt wr w.heap.size p A c
  tab : Arr wr gB fs
  res : Arr wr gA zeros
  below : Below w.heap.size w wr
  lo : w.heap.size < gA
  lt : gA < gB

section
variable {w wr w' : World} {p : Port} {A : Option Addr} {c gA gB : Nat} {fs : List Int}
theorem BS.alloc (h : BS w wr p A c gA gB fs) (o : Obj) : BS w (wr.alloc o) p A c gA gB fs := ⟨h.port.alloc o, h.tab.alloc o, h.res.alloc o, h.below.alloc h.below.size o, h.lo, h.lt⟩
theorem BS.drewN (h : BS w wr p A c gA gB fs) (n : Nat) : BS w (wr.drewN n) p A c gA gB fs := ⟨h.port, h.tab.drewN n, h.res.drewN n, below_drewN h.below n, h.lo, h.lt⟩
theorem BS.set (h : BS w wr p A c gA gB fs) (t : Nat) (v : Int) : BS w (wr.setCell ⟨gB, t, none⟩ (.int .i64 v)) p A c gA gB (fs.set t v) := by
  have h1 := h.lo
  have h2 := h.lt
  exact ⟨h.port.beside _ _ (by simp; omega), h.tab.set t v, h.res.beside _ _ (by simp; omega), h.below.setCell (by simp; omega) _, h1, h2⟩
end

def lieTo (p : Port) (t : Nat) (k : Nat) : Int := sumTo (fun i => lieAt (p.ship i) t) k
def keptSum (p : Port) (t : Nat) (k : Nat) : Int := sumTo (fun i => keptAt (p.keep i) t) k
def okTo (p : Port) (t : Nat) : Bool := decide (∀ u, u < t → 0 ≤ freeOf p (u : Nat))
theorem okTo_next (p : Port) (t : Nat) : okTo p (t + 1) = (okTo p t && decide (0 ≤ freeOf p t)) := by
  unfold okTo
  rw [Bool.eq_iff_iff]
  simp only [decide_eq_true_eq, Bool.and_eq_true]
  constructor
  · intro h; exact ⟨fun u hu => h u (by omega), h t (by omega)⟩
  · rintro ⟨h1, h2⟩ u hu
    rcases (by omega : u < t ∨ u = t) with h | rfl
    · exact h1 u h
    · exact h2
theorem okTo_all {p : Port} (h : Plain.Fair p) : okTo p 300 = (baseL p).2 := by
  rw [Bool.eq_iff_iff, (base_good h).1]
  unfold okTo
  rw [decide_eq_true_eq]
  constructor
  · intro g u u0 u1
    have := g u.toNat (by omega)
    rwa [show ((u.toNat : Nat) : Int) = u by omega] at this
  · intro g u hu; exact g u (by omega) (by omega)
theorem lie_range {p : Port} (h : Plain.Fair p) (t : Nat) : ∀ k, k ≤ p.ships.length → 0 ≤ lieTo p t k ∧ lieTo p t k ≤ 16 * k
  | 0, _ => by simp [lieTo, sumTo]
  | k + 1, hk => by
    have ih := lie_range h t k (by omega)
    have hs := ((h.ship k (by omega)).1).wide
    unfold lieTo at ih ⊢
    rw [sumTo]
    have : 0 ≤ lieAt (p.ship k) t ∧ lieAt (p.ship k) t ≤ 16 := by unfold lieAt; split <;> omega
    omega
theorem kept_range {p : Port} (h : Plain.Fair p) (t : Nat) : ∀ k, k ≤ 4 → 0 ≤ keptSum p t k ∧ keptSum p t k ≤ 16 * k
  | 0, _ => by simp [keptSum, sumTo]
  | k + 1, hk => by
    have ih := kept_range h t k (by omega)
    have hs := h.kept k (by omega)
    unfold KeptOk at hs
    unfold keptSum at ih ⊢
    rw [sumTo]
    have : 0 ≤ keptAt (p.keep k) t ∧ keptAt (p.keep k) t ≤ 16 := by unfold keptAt; split <;> omega
    omega
theorem free_late {p : Port} {t : Nat} (h : p.now ≤ t) : freeOf p t = 16 - p.shut - lieTo p t p.ships.length - keptSum p t 4 := by
  unfold freeOf lieTo keptSum; rw [if_pos h]; omega
theorem free_early {p : Port} {t : Nat} (h : ¬ p.now ≤ t) : freeOf p t = 16 - p.shut := by unfold freeOf; rw [if_neg h]; omega

/-- What the table says. -/
def RetBase (p : Port) (w : World) (e : Ending) (w' : World) : Prop :=
  ∃ fs : List Int, fs.length = 300 ∧ (∀ u : Nat, u < 300 → fs.getD u 0 = freeOf p u) ∧ e = .returned (.tuple #[.agg (arr fs), .bool (baseL p).2]) ∧ Below w.heap.size w w'

theorem set_get (fs : List Int) (t : Nat) (h : fs.length = 300) (ht : t < 300) (u : Nat) (v : Int) : (fs.set t v).getD u 0 = if u = t then v else fs.getD u 0 := getD_set' fs t u v (by omega)

set_option maxRecDepth 100000 in
set_option maxHeartbeats 40000000 in
theorem baseOf_any (p : Port) (A : Option Addr) (c : Nat) (w : World) (hf : Plain.Fair p) (hin : InP w p A) :
    Calls Try.prog 37 #[.agg (portA p A c)] w (RetBase p w) := by
  have hn := hf.now
  have hsh := hf.shut
  have hlen := hf.len
  have HF := Lib.hid hf
  clear hf
  have hP0 : PortAt (w.alloc (.cells (portA p A c) 27)) w.heap.size p A c := PortAt.new w p A c
  have hB0 : Below w.heap.size w (w.alloc (.cells (portA p A c) 27)) := (Below.refl _ _).alloc (Nat.le_refl _) _
  simp only [portA] at hP0 hB0 ⊢
  go_enter Try.func37, Try.ntmps37
  go_wp2_with (first
    | (have _ := hAlaid; refine wpList_alloc_arr rfl rfl ?_; intro wB gB b1 b2 hB hbB)
    | (refine wpList_alloc_arr rfl rfl ?_; intro wA gA a1 a2 hA hbA; have hAlaid := True.intro))
  have hS : BS w wB p A c gA gB zeros := ⟨(PortAt.below (p := p) (A := A) (c := c) hP0 hbA (by simp)).below hbB (by have := hbA.size; simp at this; omega), hB, hA.below hbB a2, (below_go (below_go hB0 hbA) hbB), by simp at a1; omega, by omega⟩
  clear hP0 hB0 hA hB hbA hbB a1 a2 b1 b2 hAlaid
  go_loopw [11, 5] (fun i x5 wr => ∃ (t : Nat) (fs : List Int), t ≤ 300 ∧ i = .int .i64 t ∧ x5 = .bool (okTo p t) ∧ BS w wr p A c gA gB fs ∧ ∀ u, u < t → fs.getD u 0 = freeOf p (u : Nat)) (fun i _ _ => 300 - (intOf i).toNat)
  case atStart => exact ⟨0, zeros, by omega, rfl, rfl, hS, fun u hu => absurd hu (by omega)⟩
  case round =>
    clear hS
    obtain ⟨t, fs, ht, rfl, rfl, hS, hall⟩ := hrel
    have HAL := Lib.hid hall
    clear hall
    have q0 := hS.port.now
    have q1 := hS.port.ships
    have q2 := hS.port.shut
    have q3 := hS.port.lt
    have q4 := hS.tab.lt
    have q5 := hS.lo
    have q6 := hS.lt
    by_cases hlt : t < 300
    · have c0 := hS.tab.cell t hlt
      have f0 := hS.tab.frozen t
      have hX0 := hS.set t (16 - p.shut)
      have HL0 := Lib.hid hS.tab.len
      have HFG := Lib.hid (set_get fs t HL0.out hlt)
      obtain ⟨X, hX⟩ : ∃ X : Int, freeOf p t = X := ⟨_, rfl⟩
      have HX := Lib.hid hX
      have HON := Lib.hid (okTo_next p t)
      rw [hX] at HON
      clear hX
      have HLT := Lib.hid (@free_late p t)
      have HER := Lib.hid (@free_early p t)
      have hXr : -400 ≤ X ∧ X ≤ 400 := by
        rw [← HX.out]
        have h1 := lie_range HF.out t p.ships.length (Nat.le_refl _)
        have h2 := kept_range HF.out t 4 (Nat.le_refl _)
        by_cases h : p.now ≤ t
        · rw [free_late h]; omega
        · rw [free_early h]; omega
      have HEND := Lib.hid (show ∀ gs : List Int, gs = fs.set t X → ∀ u, u < t + 1 → gs.getD u 0 = freeOf p (u : Nat) from fun gs hg u hu => by
        subst hg
        rw [HFG.out]
        by_cases e : u = t
        · subst e; rw [if_pos rfl, HX.out]
        · rw [if_neg e]; exact HAL.out u (by omega))
      go_upto_if 22 with fail
      go_cut [4] (fun x4 wq => x4 = .pointer (some ⟨gB, 0, none⟩) ∧ BS w wq p A c gA gB (fs.set t X))
      case first => as_aux_lemma =>
        by_cases hnow : p.now ≤ t
        · have d1 : decide ((t : Int) ≥ p.now) = true := by simpa using hnow
          have HXE := Lib.hid (HX.out.symm.trans (HLT.out hnow))
          have p1 := hX0.port.ships
          have p2 := hX0.port.lt
          go_wp2_with fail
          go_loopw [26] (fun i wi => ∃ k : Nat, k ≤ p.ships.length ∧ i = .int .i64 k ∧ BS w wi p A c gA gB (fs.set t (16 - p.shut - lieTo p t k))) (fun i _ => p.ships.length - (intOf i).toNat)
          case atStart => exact ⟨0, Nat.zero_le _, rfl, by simpa [lieTo, sumTo] using hX0⟩
          case round =>
            clear hX0 p1 p2 c0 f0 q0 q1 q2 q3 q4
            obtain ⟨k, hk, rfl, hS1⟩ := hrel
            have q3 := hS1.port.lt
            have q4 := hS1.tab.lt
            have c1 := hS1.tab.cell t hlt
            have f1 := hS1.tab.frozen t
            rw [HFG.out, if_pos rfl] at c1
            have hr := lie_range HF.out t k hk
            by_cases hkl : k < p.ships.length
            · obtain ⟨b, off, hA, hbl, hcells⟩ := ships_at (Sl.below hin hS1.below) (by omega)
              subst hA
              obtain ⟨d1', d2, d3, d4, d5, d6⟩ := hcells k hkl
              clear hcells
              have HS2 := Lib.hid (show ∀ v : Int, (fs.set t (16 - p.shut - lieTo p t k)).set t v = fs.set t v from fun v => by rw [List.set_set])
              have HNX := Lib.hid (show lieTo p t (k + 1) = lieTo p t k + lieAt (p.ship k) t from rfl)
              have hso := (HF.out.ship k hkl).1
              have hw := hso.wide
              have hlg := hso.long
              have hsi : 0 ≤ (p.ship k).since ∧ (p.ship k).since ≤ 300 := by
                by_cases e : (p.ship k).state = 3
                · have := hso.lies e; omega
                · have := hso.other e; omega
              have HLA := Lib.hid (show lieAt (p.ship k) t = if (p.ship k).state = 3 ∧ (t : Int) < (p.ship k).since + (p.ship k).long then (p.ship k).wide else 0 from rfl)
              clear hso
              change wr.cell? _ = some (.int .i64 (p.ship k).state) at d1'
              change wr.cell? _ = some (.int .i64 (p.ship k).wide) at d2
              change wr.cell? _ = some (.int .i64 (p.ship k).long) at d3
              change wr.cell? _ = some (.int .i64 (p.ship k).cls) at d4
              change wr.cell? _ = some (.int .i64 (p.ship k).since) at d5
              change wr.cell? _ = some (.int .i64 (p.ship k).queued) at d6
              generalize lieAt (p.ship k) t = L at *
              generalize p.ship k = x at *
              obtain ⟨sst, wd, lg, cl, si, qu⟩ := x
              dsimp only at *
              by_cases e3 : sst = 3
              · subst e3
                by_cases hlie : (t : Int) < si + lg
                · have HL1 := Lib.hid (show lieTo p t (k + 1) = lieTo p t k + wd by rw [HNX.out, HLA.out, if_pos ⟨rfl, hlie⟩])
                  have t2 : decide ((t : Int) < si + lg) = true := by simpa using hlie
                  have HBS := Lib.hid hS1
                  clear HNX HLA hS1
                  go_wp2_with fail
                  go_region
                  all_goals
                    go_wp2_with fail
                    go_roundw
                    case rel => exact ⟨k + 1, by omega, by go_num, by
                      have := ((HBS.out.set t (16 - p.shut - lieTo p t k - wd)).alloc (.cells #[.int .i64 3, .int .i64 wd, .int .i64 lg, .int .i64 cl, .int .i64 si, .int .i64 qu] 38)).drewN 1
                      rw [HS2.out] at this
                      rw [HL1.out, show 16 - p.shut - (lieTo p t k + wd) = 16 - p.shut - lieTo p t k - wd by omega]
                      exact this⟩
                    case measure => simp [intOf] <;> omega
                · have HL1 := Lib.hid (show lieTo p t (k + 1) = lieTo p t k by rw [HNX.out, HLA.out, if_neg (fun h => hlie h.2)]; omega)
                  have t2 : decide ((t : Int) < si + lg) = false := by simpa using hlie
                  clear HNX HLA
                  go_wp2_with fail
                  go_roundw
                  case rel => exact ⟨k + 1, by omega, by go_num, by rw [HL1.out]; exact hS1.alloc _⟩
                  case measure => simp [intOf] <;> omega
              · have HL1 := Lib.hid (show lieTo p t (k + 1) = lieTo p t k by rw [HNX.out, HLA.out, if_neg (fun h => e3 h.1)]; omega)
                obtain ⟨a1, a2, a3⟩ := ne_facts' e3
                clear HNX HLA
                go_wp2_with fail
                go_roundw
                case rel => exact ⟨k + 1, by omega, by go_num, by rw [HL1.out]; exact hS1.alloc _⟩
                case measure => simp [intOf] <;> omega
            · obtain rfl : k = p.ships.length := by omega
              have hk0 := hS1.port.cell 2
              have hk1 := hS1.port.cell 3
              have hk2 := hS1.port.cell 4
              have hk3 := hS1.port.cell 5
              have hk4 := hS1.port.cell 6
              have hk5 := hS1.port.cell 7
              have hk6 := hS1.port.cell 8
              have hk7 := hS1.port.cell 9
              have hk8 := hS1.port.cell 10
              have hk9 := hS1.port.cell 11
              have hk10 := hS1.port.cell 12
              have hk11 := hS1.port.cell 13
              simp only [portA] at hk0 hk1 hk2 hk3 hk4 hk5 hk6 hk7 hk8 hk9 hk10 hk11
              obtain ⟨Y, hY⟩ : ∃ Y, 16 - p.shut - lieTo p t p.ships.length = Y := ⟨_, rfl⟩
              have hYr : -400 ≤ Y ∧ Y ≤ 400 := by omega
              rw [hY] at hS1 c1 HXE
              clear hY hr c1
              go_wp2_with fail
              go_loopw [52] (fun i wi => ∃ m : Nat, m ≤ 4 ∧ i = .int .i64 m ∧ BS w wi p A c gA gB (fs.set t (Y - keptSum p t m))) (fun i _ => 4 - (intOf i).toNat)
              case atStart => exact ⟨0, by omega, rfl, by simpa [keptSum, sumTo] using hS1⟩
              case round =>
                clear hk0 hk1 hk2 hk3 hk4 hk5 hk6 hk7 hk8 hk9 hk10 hk11 hS1 q3 q4 f1
                obtain ⟨m, hm, rfl, hS1⟩ := hrel
                have q3 := hS1.port.lt
                have q4 := hS1.tab.lt
                have c1 := hS1.tab.cell t hlt
                have f1 := hS1.tab.frozen t
                rw [HFG.out, if_pos rfl] at c1
                have hr := kept_range HF.out t m hm
                by_cases hml : m < 4
                · have HS2 := Lib.hid (show ∀ v : Int, (fs.set t (Y - keptSum p t m)).set t v = fs.set t v from fun v => by rw [List.set_set])
                  have HNX := Lib.hid (show keptSum p t (m + 1) = keptSum p t m + keptAt (p.keep m) t from rfl)
                  have HKA := Lib.hid (show keptAt (p.keep m) t = if (p.keep m).fr ≤ t ∧ (t : Int) < (p.keep m).to then (p.keep m).wide else 0 from rfl)
                  have hko := HF.out.kept m hml
                  unfold KeptOk at hko
                  have hkr : 0 ≤ (p.keep m).wide ∧ (p.keep m).wide ≤ 16 ∧ 0 ≤ (p.keep m).fr ∧ (p.keep m).fr ≤ 300 ∧ 0 ≤ (p.keep m).to ∧ (p.keep m).to ≤ 300 := by omega
                  clear hko
                  obtain ⟨wd, hwd⟩ : ∃ x, (p.keep m).wide = x := ⟨_, rfl⟩
                  obtain ⟨fr, hfr⟩ : ∃ x, (p.keep m).fr = x := ⟨_, rfl⟩
                  obtain ⟨tt, htt⟩ : ∃ x, (p.keep m).to = x := ⟨_, rfl⟩
                  have HK := Lib.hid (show (Value.agg #[.int .i64 (p.keep m).wide, .int .i64 (p.keep m).fr, .int .i64 (p.keep m).to]) = .agg #[.int .i64 wd, .int .i64 fr, .int .i64 tt] by rw [hwd, hfr, htt])
                  rw [hwd, hfr, htt] at HKA hkr
                  generalize keptAt (p.keep m) t = L at *
                  clear hwd hfr htt
                  by_cases e1 : fr ≤ (t : Int)
                  · by_cases e2 : (t : Int) < tt
                    · have HL1 := Lib.hid (show keptSum p t (m + 1) = keptSum p t m + wd by rw [HNX.out, HKA.out, if_pos ⟨e1, e2⟩])
                      have t1 : decide ((t : Int) ≥ fr) = true := by simpa using e1
                      have t2 : decide ((t : Int) < tt) = true := by simpa using e2
                      have HBS := Lib.hid hS1
                      clear HNX HKA hS1
                      go_wp2_with (refine wpList_index_kept (p := p) (k := m) rfl rfl rfl rfl hml ?_; rw [HK.out])
                      go_region
                      all_goals
                        go_wp2_with fail
                        go_roundw
                        case rel => exact ⟨m + 1, by omega, by go_num, by
                          have := ((HBS.out.set t (Y - keptSum p t m - wd)).alloc (.cells #[.int .i64 wd, .int .i64 fr, .int .i64 tt] 24)).drewN 1
                          rw [HS2.out] at this
                          rw [HL1.out, show Y - (keptSum p t m + wd) = Y - keptSum p t m - wd by omega]
                          exact this⟩
                        case measure => simp [intOf] <;> omega
                    · have HL1 := Lib.hid (show keptSum p t (m + 1) = keptSum p t m by rw [HNX.out, HKA.out, if_neg (fun h => e2 h.2)]; omega)
                      have t1 : decide ((t : Int) ≥ fr) = true := by simpa using e1
                      have t2 : decide ((t : Int) < tt) = false := by simpa using e2
                      clear HNX HKA
                      go_wp2_with (refine wpList_index_kept (p := p) (k := m) rfl rfl rfl rfl hml ?_; rw [HK.out])
                      go_roundw
                      case rel => exact ⟨m + 1, by omega, by go_num, by rw [HL1.out]; exact hS1.alloc _⟩
                      case measure => simp [intOf] <;> omega
                  · have HL1 := Lib.hid (show keptSum p t (m + 1) = keptSum p t m by rw [HNX.out, HKA.out, if_neg (fun h => e1 h.1)]; omega)
                    have t1 : decide ((t : Int) ≥ fr) = false := by simpa using e1
                    clear HNX HKA
                    go_wp2_with (refine wpList_index_kept (p := p) (k := m) rfl rfl rfl rfl hml ?_; rw [HK.out])
                    go_roundw
                    case rel => exact ⟨m + 1, by omega, by go_num, by rw [HL1.out]; exact hS1.alloc _⟩
                    case measure => simp [intOf] <;> omega
                · obtain rfl : m = 4 := by omega
                  go_wp2_with fail
                  go_meet
                  exact ⟨rfl, by rw [HXE.out]; exact hS1⟩
        · have d1 : decide ((t : Int) ≥ p.now) = false := by simpa using hnow
          have HXE := Lib.hid (HX.out.symm.trans (HER.out hnow))
          go_wp2_with fail
          go_meet
          exact ⟨rfl, by rw [HXE.out]; exact hX0⟩
      obtain ⟨rfl, hS1⟩ := hcut
      clear hX0 c0 f0 q0 q1 q2 q3 q4
      have q4 := hS1.tab.lt
      have c1 := hS1.tab.cell t hlt
      rw [HFG.out, if_pos rfl] at c1
      cases hok : okTo p t with
      | true =>
        have HO := Lib.hid (show okTo p (t + 1) = decide (0 ≤ X) by rw [HON.out, hok]; rfl)
        clear hok
        go_wp2_with fail
        go_roundw
        case rel => exact ⟨t + 1, _, by omega, by go_num, by rw [HO.out], hS1, HEND.out _ rfl⟩
        case measure => simp [intOf] <;> omega
      | false =>
        have HO := Lib.hid (show okTo p (t + 1) = false by rw [HON.out, hok]; rfl)
        clear hok
        go_wp2_with fail
        go_roundw
        case rel => exact ⟨t + 1, _, by omega, by go_num, by rw [HO.out], hS1, HEND.out _ rfl⟩
        case measure => simp [intOf] <;> omega
    · obtain rfl : t = 300 := by omega
      have HOK := Lib.hid (okTo_all HF.out)
      go_wp2_with (first
        | (refine wpList_load_arr rfl rfl (by first | rfl | simp [Act.eval, Act.put]) hS.tab ?_)
        | (refine wpList_store_arr rfl rfl (by first | rfl | simp [Act.eval, Act.put]) (by first | rfl | simp [Act.eval, Act.put]) hS.res hS.tab.len ?_; intro w3 hA3 hr3))
      refine bodyPost_ret (results_arr rfl _ _ gA _ rfl hA3) rfl ?_
      exact ⟨fs, hS.tab.len, fun u hu => HAL.out u hu, by rw [← HOK.out]; rfl, hS.below.trans (hr3.below (by omega))⟩
end Go.Proofs.Ytifmdkcpbajdcab

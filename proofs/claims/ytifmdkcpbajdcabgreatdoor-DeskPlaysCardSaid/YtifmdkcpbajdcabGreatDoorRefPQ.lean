/- Walks: of what is free time by time: less of it, the first time at which it is enough. -/
import Derived.Test.YtifmdkcpbajdcabGreatDoorRefW
import Derived.Test.YtifmdkcpbajdcabGreatDoorRefPA
import Derived.Test.YtifmdkcpbajdcabGreatDoorPortA
import Derived.Test.YtifmdkcpbajdcabGreatDoorArr
import Derived.Laws.OwnMore
import Derived.Deep.RegionHeld3
set_option linter.unusedVariables false
set_option linter.unusedSimpArgs false
set_option maxHeartbeats 40000000
namespace Go.Proofs.YtifmdkcpbajdcabGreatDoor
open Go.RowKit Go.Proofs Plain
open Go.Act renaming put -> aP, eval -> aE
open Go.Lib renaming hid -> hd_
def Tab (fs : List Int) : Prop := fs.length = 300 /\ ∀ t : Nat, t < 300 -> 0 <= fs.getD t 0 /\ fs.getD t 0 <= 16
theorem getD_ext {l m : List Int} (hl : l.length = m.length) (h : ∀ i, i < l.length -> l.getD i 0 = m.getD i 0) : l = m := by
  refine List.ext_getElem hl fun i h1 h2 => ?_
  have := h i h1
  rw [List.getD_eq_getElem?_getD, List.getD_eq_getElem?_getD, List.getElem?_eq_getElem h1, List.getElem?_eq_getElem h2] at this
  exact this
theorem lessL_start (fs : List Int) (fr n : Int) (h : fs.length = 300) : lessL fs fr fr n = fs := by
  refine getD_ext (by rw [lessL_len, h]) fun i h1 => ?_
  have := lessL_get fs fr fr n i (by rw [lessL_len] at h1; exact h1)
  rwa [if_neg (by omega)] at this
theorem lessL_next (fs : List Int) (fr n : Int) (t : Nat) (ht : t < 300) (hf : fr <= t) : (lessL fs fr t n).set t (fs.getD t 0 - n) = lessL fs fr ((t + 1 : Nat) : Int) n := by
  refine getD_ext (by rw [List.length_set, lessL_len, lessL_len]) fun i h1 => ?_
  have hi : i < 300 := by rw [List.length_set, lessL_len] at h1; exact h1
  rw [lessL_get fs fr ((t + 1 : Nat) : Int) n i hi, getD_set' (lessL fs fr t n) t i (fs.getD t 0 - n) (by rw [lessL_len]; exact ht), lessL_get fs fr t n i hi]
  by_cases c : i = t
  · subst c; rw [if_pos rfl, if_pos (by omega)]
  · rw [if_neg c]
    by_cases d : fr <= (i : Int) /\ (i : Int) < t
    · rw [if_pos d, if_pos (by omega)]
    · rw [if_neg d, if_neg (by omega)]
theorem lessOk_no {fs : List Int} {fr tt n : Int} {t : Nat} (h0 : fr <= t) (h1 : (t : Int) < tt) (h2 : tt <= 300) (h : ¬ (0 <= fs.getD t 0 - n /\ fs.getD t 0 - n <= 16)) : lessOk fs fr tt n = false := by
  cases hc : lessOk fs fr tt n with
  | false => rfl
  | true => exact absurd ((lessOk_iff fs fr tt n h2).1 hc t h0 h1) h
def RetLess (fs : List Int) (fr tt n : Int) (w : World) (e : Ending) (w' : World) : Prop :=
  e = .returned (.tuple #[.agg (arr (if lessOk fs fr tt n = true then lessL fs fr tt n else fs)), .bool (lessOk fs fr tt n)]) /\ Below w.heap.size w w'
theorem lessOk_yes {fs : List Int} {fr tt n : Int} (h2 : tt <= 300) (h : ∀ u : Nat, fr <= u -> (u : Int) < tt -> 0 <= fs.getD u 0 - n /\ fs.getD u 0 - n <= 16) : lessOk fs fr tt n = true := (lessOk_iff fs fr tt n h2).2 h
theorem less_yes {fs : List Int} {fr tt n : Int} {w w' : World} (h : lessOk fs fr tt n = true) (hb : Below w.heap.size w w') : RetLess fs fr tt n w (.returned (.tuple #[.agg (arr (lessL fs fr tt n)), .bool true])) w' := by
  unfold RetLess; rw [h, if_pos rfl]; exact ⟨rfl, hb⟩
theorem less_no {fs : List Int} {fr tt n : Int} {w w' : World} (h : lessOk fs fr tt n = false) (hb : Below w.heap.size w w') : RetLess fs fr tt n w (.returned (.tuple #[.agg (arr fs), .bool false])) w' := by
  unfold RetLess; rw [h, if_neg (by simp)]; exact ⟨rfl, hb⟩
set_option maxRecDepth 100000 in
theorem less_any (fs : List Int) (fr tt n : Int) (w : World) (hf : Tab fs) (h0 : 0 <= fr) (h1 : fr <= tt) (h2 : tt <= 300) (h3 : -16 <= n) (h4 : n <= 16) :
    Calls Tryz.prog 50 #[.agg (arr fs), .int .i64 fr, .int .i64 tt, .int .i64 n] w (RetLess fs fr tt n w) := by
  obtain ⟨hl, hr⟩ := hf
  have HR := hd_ hr
  have HL := hd_ (lessL_start fs fr n hl)
  clear hr
  go_enter Tryz.func50, Tryz.ntmps50
  go_wp2_with (first
    | (refine wpList_box_arr rfl rfl (by first | rfl | simp [aE, aP]) hl ?_; intro wA gA a1 a2 hA hbA)
    | (have _ := hBlaid; refine wAA rfl rfl ?_; intro wC gC c1 c2 hC hbC; have hA3 := hA2.below hbC (by have := hbB.size; omega); have hB3 := hB.below hbC b2; have hbS := hbA.trans ((hbB.mono hbA.size).trans (hbC.mono (by have := hbA.size; have := hbB.size; omega))))
    | (refine wAA rfl rfl ?_; intro wB gB b1 b2 hB hbB; have hA2 := hA.below hbB a2; have hBlaid := True.intro)
    | (refine wpList_load_arr rfl rfl (by first | rfl | simp [aE, aP]) hA2 ?_)
    | (refine wSA rfl rfl (by first | rfl | simp [aE, aP]) (by first | rfl | simp [aE, aP]) hC hl ?_; intro w3 hC3 hr3))
  have hA4 := hr3.arr hA3 (by omega)
  have hB4 := hr3.arr hB3 (by omega)
  have hb4 := hbS.trans (hr3.below (n := w.heap.size) (by have := hbA.size; have := hbB.size; omega))
  have q1 : w.heap.size <= gC := by have := hbA.size; have := hbB.size; omega
  have q2 : w.heap.size <= gB := by have := hbA.size; omega
  have q3 : gA ≠ gC := by omega
  have q4 : gB ≠ gC := by omega
  have q5 : gA ≠ gB := by omega
  clear hA hA2 hA3 hB hB3 hC hbA hbB hbC hbS hr3 a1 a2 b1 b2 c1 c2 hBlaid
  go_loopw [9, 11] (fun bx i wr => ∃ t : Nat, i = .int .i64 t /\ bx = .bool false /\ fr <= t /\ (t : Int) <= tt /\ (∀ u : Nat, fr <= u -> u < t -> 0 <= fs.getD u 0 - n /\ fs.getD u 0 - n <= 16) /\ Arr wr gA fs /\ Arr wr gB zeros /\ Arr wr gC (lessL fs fr t n) /\ Below w.heap.size w wr) (fun _ i _ => (tt - intOf i).toNat)
  case atStart => exact ⟨fr.toNat, by rw [show ((fr.toNat : Nat) : Int) = fr by omega], rfl, by omega, by omega, fun u hu hu2 => absurd hu2 (by omega), hA4, hB4, by rw [show ((fr.toNat : Nat) : Int) = fr by omega, HL.out]; exact hC3, hb4⟩
  case round =>
    clear hA4 hB4 hC3 hb4
    obtain ⟨t, rfl, rfl, t0, t1, hok, hA, hB, hC, hb⟩ := hrel
    by_cases hlt : (t : Int) < tt
    · have ht : t < 300 := by omega
      have hc1 := hC.cell t ht
      rw [lessL_get fs fr t n t ht, if_neg (by omega)] at hc1
      have hfz := hC.frozen t
      have hx := HR.out t ht
      have HN := hd_ (lessL_next fs fr n t ht t0)
      have HNO := hd_ (@lessOk_no fs fr tt n t t0 hlt h2)
      have HOK := hd_ (show 0 <= fs.getD t 0 - n /\ fs.getD t 0 - n <= 16 -> ∀ u : Nat, fr <= u -> u < t + 1 -> 0 <= fs.getD u 0 - n /\ fs.getD u 0 - n <= 16 from fun h u hu hu2 => by
        by_cases e : u = t
        · subst e; exact h
        · exact hok u hu (by omega))
      clear hok
      generalize fs.getD t 0 = x at hc1 hx HN HNO HOK
      by_cases hin : 0 <= x - n /\ x - n <= 16
      · have HB : (decide (0 <= x - n) && decide (x - n <= 16)) = true := by simpa using hin
        have HO := hd_ (HOK.out hin)
        clear HNO HOK hin
        go_wp2_with (go_at_call 41; refine (wI_ _ HB).mono ?_; rintro e w5 ⟨rfl, rfl⟩)
        go_roundw
        case rel => exact ⟨t + 1, by go_num, rfl, by omega, by omega, HO.out, hA.beside _ _ (by simpa using q3.symm), hB.beside _ _ (by simpa using q4.symm), by have := hC.set t (x - n); rw [HN.out] at this; exact this, hb.setCell (by simpa using q1) _⟩
        case measure => simp [intOf] <;> omega
      · have HB : (decide (0 <= x - n) && decide (x - n <= 16)) = false := by simp; omega
        have HO := hd_ (HNO.out hin)
        clear HNO HOK hin
        have hA5 := hA.beside ⟨gC, t, none⟩ (.int .i64 (x - n)) (by simpa using q3.symm)
        have hB5 := hB.beside ⟨gC, t, none⟩ (.int .i64 (x - n)) (by simpa using q4.symm)
        have hb5 := hb.setCell (p := ⟨gC, t, none⟩) (by simpa using q1) (.int .i64 (x - n))
        go_wp2_with (first
          | (go_at_call 41; refine (wI_ _ HB).mono ?_; rintro e w5 ⟨rfl, rfl⟩)
          | (refine wpList_load_arr rfl rfl (by first | rfl | simp [aE, aP]) hA5 ?_)
          | (refine wSA rfl rfl (by first | rfl | simp [aE, aP]) (by first | rfl | simp [aE, aP]) hB5 hl ?_; intro w3 hB6 hr3))
        refine bodyPost_ret (results_arr rfl _ _ gB _ rfl hB6) rfl ?_
        exact less_no HO.out (hb5.trans (hr3.below q2))
    · have HO := hd_ (lessOk_yes (n := n) h2 fun u hu hu2 => hok u hu (by omega))
      have HE := hd_ (show (t : Int) = tt by omega)
      clear hok
      go_wp2_with (first
        | (refine wpList_load_arr rfl rfl (by first | rfl | simp [aE, aP]) hC ?_)
        | (refine wSA rfl rfl (by first | rfl | simp [aE, aP]) (by first | rfl | simp [aE, aP]) hB hC.len ?_; intro w3 hB6 hr3))
      refine bodyPost_ret (results_arr rfl _ _ gB _ rfl hB6) rfl ?_
      rw [HE.out]
      exact less_yes HO.out (hb.trans (hr3.below q2))
def tabF (fs : List Int) (u : Int) : Int := fs.getD u.toNat 0
def RetFirst (fs : List Int) (fr long n : Int) (w : World) (e : Ending) (w' : World) : Prop :=
  ∃ v, First (tabF fs) fr long n v /\ e = .returned (.int .i64 v) /\ Below w.heap.size w w'
theorem fits_next {fs : List Int} {long n : Int} {t k : Nat} (ht : t <= k) (h : ∀ j : Nat, t <= j -> j < k -> n <= fs.getD j 0) (hx : n <= fs.getD k 0) : ∀ j : Nat, t <= j -> j < k + 1 -> n <= fs.getD j 0 := fun j h1 h2 => by
  by_cases e : j = k
  · rw [e]; exact hx
  · exact h j h1 (by omega)
theorem fits_not {fs : List Int} {long n : Int} {t k : Nat} (ht : t <= k) (hk : (k : Int) < t + long) (hx : ¬ n <= fs.getD k 0) : ¬ Fits (tabF fs) long n t := fun h => hx (by have := h.2 k (by omega) hk; simpa [tabF] using this)
theorem fits_is {fs : List Int} {long n : Int} {t k : Nat} (h300 : (t : Int) + long <= 300) (hk : (t : Int) + long <= k) (h : ∀ j : Nat, t <= j -> j < k -> n <= fs.getD j 0) : Fits (tabF fs) long n t :=
  ⟨h300, fun j h1 h2 => by have := h j.toNat (by omega) (by omega); exact this⟩
theorem nots_next {f : Int -> Int} {fr long n : Int} {t : Nat} (h : ∀ u, fr <= u -> u < t -> ¬ Fits f long n u) (ht : ¬ Fits f long n t) : ∀ u, fr <= u -> u < ((t + 1 : Nat) : Int) -> ¬ Fits f long n u := fun u h1 h2 => by
  by_cases e : u = t
  · rw [e]; exact ht
  · exact h u h1 (by omega)
theorem first_none {f : Int -> Int} {fr long n : Int} {t : Nat} (h : ∀ u, fr <= u -> u < t -> ¬ Fits f long n u) (ht : ¬ (t : Int) + long <= 300) : First f fr long n (-1) := .inl ⟨rfl, fun u h1 hf => by
  by_cases e : u < t
  · exact h u h1 e hf
  · have := hf.1; omega⟩
theorem first_some {f : Int -> Int} {fr long n : Int} {t : Nat} (h : ∀ u, fr <= u -> u < t -> ¬ Fits f long n u) (h0 : fr <= t) (hf : Fits f long n t) : First f fr long n t := .inr ⟨h0, hf, fun u h1 h2 => h u h1 h2⟩
set_option maxRecDepth 100000 in
theorem first_any (fs : List Int) (fr long n : Int) (w : World) (hl : fs.length = 300) (h0 : 0 <= fr) (h1 : fr <= 300) (h2 : 1 <= long) (h3 : long <= 300) :
    Calls Tryz.prog 49 #[.agg (arr fs), .int .i64 fr, .int .i64 long, .int .i64 n] w (RetFirst fs fr long n w) := by
  go_enter Tryz.func49, Tryz.ntmps49
  go_wp2_with (refine wpList_box_arr rfl rfl (by first | rfl | simp [aE, aP]) hl ?_; intro wA gA a1 a2 hA hbA)
  go_loopw [9] (fun i wr => ∃ t : Nat, i = .int .i64 t /\ fr <= t /\ t <= 301 /\ (∀ u, fr <= u -> u < t -> ¬ Fits (tabF fs) long n u) /\ Arr wr gA fs /\ Below w.heap.size w wr) (fun i _ => 301 - (intOf i).toNat)
  case atStart => exact ⟨fr.toNat, by rw [show ((fr.toNat : Nat) : Int) = fr by omega], by omega, by omega, fun u hu hu2 => absurd hu2 (by omega), hA, hbA⟩
  case round =>
    clear hA hbA
    obtain ⟨t, rfl, t0, t1, hno, hA, hb⟩ := hrel
    have HNO := hd_ hno
    clear hno
    by_cases hlt : (t : Int) + long <= 300
    · go_wp2_with fail
      go_loopw [10, 11] (fun o i wi => ∃ (k : Nat) (ob : Bool), i = .int .i64 k /\ o = .bool ob /\ t <= k /\ (k : Int) <= t + long /\ (ob = true -> ∀ j : Nat, t <= j -> j < k -> n <= fs.getD j 0) /\ (ob = false -> ¬ Fits (tabF fs) long n t) /\ Arr wi gA fs /\ Below w.heap.size w wi) (fun _ i _ => (t + long - intOf i).toNat)
      case atStart => exact ⟨t, true, rfl, rfl, Nat.le_refl _, by omega, fun _ j h1 h2 => absurd h2 (by omega), (fun h => by cases h), hA, hb⟩
      case round =>
        clear hA hb
        obtain ⟨k, ob, rfl, rfl, k0, k1, hyes, hnot, hA, hb⟩ := hrel
        have HY := hd_ hyes
        have HN := hd_ hnot
        clear hyes hnot
        cases ob with
        | true =>
          by_cases hk : (k : Int) < t + long
          · have c1 := hA.cell k (by omega)
            have HS := hd_ (fits_next (long := long) k0 (HY.out rfl))
            have HX := hd_ (fits_not (fs := fs) (n := n) k0 hk)
            clear HY HN
            generalize fs.getD k 0 = x at c1 HS HX
            go_wp2_with fail
            go_roundw
            case rel => exact ⟨k + 1, decide (n <= x), by go_num, rfl, by omega, by omega, fun h => HS.out (by simpa using h), fun h => HX.out (by simpa using h), hA, hb⟩
            case measure => simp [intOf] <;> omega
          · have HF := hd_ (fits_is (fs := fs) hlt (by omega) (HY.out rfl))
            clear HY HN
            go_wp2_with fail
            go_ret
            exact ⟨t, first_some HNO.out t0 HF.out, rfl, hb⟩
        | false =>
          have HF := hd_ (HN.out rfl)
          clear HY HN
          by_cases hk : (k : Int) < t + long
          all_goals
            go_wp2_with fail
            go_roundw
            case rel => exact ⟨t + 1, by go_num, by omega, by omega, nots_next HNO.out HF.out, hA, hb⟩
            case measure => simp [intOf] <;> omega
    · go_wp2_with fail
      go_ret
      exact ⟨-1, first_none HNO.out (by omega), rfl, hb⟩
def Left (p : Port) (out : List Nat) (j : Nat) : Prop := j < p.ships.length /\ (p.ship j).state = 1 /\ j ∉ out
def Best (p : Port) (out : List Nat) (i : Nat) (b : Int) : Prop :=
  (b = -1 /\ ∀ j, j < i -> ¬ Left p out j) \/ ∃ jb : Nat, b = jb /\ jb < i /\ Left p out jb /\ ∀ j, j < i -> Left p out j -> key (p.ship jb) <= key (p.ship j)
theorem best_start (p : Port) (out : List Nat) : Best p out 0 (-1) := .inl ⟨rfl, fun j hj => absurd hj (by omega)⟩
theorem best_skip {p : Port} {out : List Nat} {i : Nat} {b : Int} (h : Best p out i b) (hn : ¬ Left p out i) : Best p out (i + 1) b := by
  rcases h with ⟨rfl, h⟩ | ⟨jb, rfl, h1, h2, h3⟩
  · exact .inl ⟨rfl, fun j hj => by rcases (by omega : j < i \/ j = i) with g | rfl; exact h j g; exact hn⟩
  · exact .inr ⟨jb, rfl, by omega, h2, fun j hj hl => by rcases (by omega : j < i \/ j = i) with g | rfl; exact h3 j g hl; exact absurd hl hn⟩
theorem best_keep {p : Port} {out : List Nat} {i jb : Nat} (h : Best p out i jb) (hk : key (p.ship jb) <= key (p.ship i)) : Best p out (i + 1) jb := by
  rcases h with ⟨e, h⟩ | ⟨j', e, h1, h2, h3⟩
  · omega
  · have : j' = jb := by omega
    subst this
    exact .inr ⟨j', rfl, by omega, h2, fun j hj hl => by rcases (by omega : j < i \/ j = i) with g | rfl; exact h3 j g hl; exact hk⟩
theorem best_take {p : Port} {out : List Nat} {i : Nat} {b : Int} (h : Best p out i b) (hl : Left p out i) (hk : b = -1 \/ ∃ jb : Nat, b = jb /\ key (p.ship i) <= key (p.ship jb)) : Best p out (i + 1) (i : Int) := by
  refine .inr ⟨i, rfl, by omega, hl, fun j hj hl' => ?_⟩
  rcases (by omega : j < i \/ j = i) with g | rfl
  · rcases h with ⟨e, h⟩ | ⟨j', e, h1, h2, h3⟩
    · exact absurd hl' (h j g)
    · rcases hk with e' | ⟨jb, e', hk⟩
      · omega
      · have : j' = jb := by omega
        subst this
        exact Int.le_trans hk (h3 j g hl')
  · exact Int.le_refl _
theorem rank_pick {p : Port} {r : List Nat} (hr : IsRank p r) {m jb : Nat} (hl : Left p (r.take m) jb) (hmin : ∀ j, j < p.ships.length -> Left p (r.take m) j -> key (p.ship jb) <= key (p.ship j)) : r.take (m + 1) = r.take m ++ [jb] := by
  have hm : jb ∈ r := (hr.mem jb).2 ⟨hl.1, hl.2.1⟩
  have hd : jb ∈ r.drop m := by
    rw [<- List.take_append_drop m r] at hm
    rcases List.mem_append.1 hm with h | h
    · exact absurd h hl.2.2
    · exact h
  have hlt : m < r.length := by
    rcases Nat.lt_or_ge m r.length with h | h
    · exact h
    · rw [List.drop_eq_nil_of_le h] at hd; cases hd
  rw [List.take_add_one, List.getElem?_eq_getElem hlt, Option.toList_some]
  congr 2
  rw [List.drop_eq_getElem_cons hlt] at hd
  rcases List.mem_cons.1 hd with e | hd
  · exact e.symm
  · have hs := hr.sorted
    rw [<- List.take_append_drop m r, List.drop_eq_getElem_cons hlt] at hs
    have hs2 := (List.pairwise_append.1 hs)
    have h1 := (List.pairwise_cons.1 hs2.2.1).1 jb hd
    have hin := (hr.mem r[m]).1 (List.getElem_mem hlt)
    have hno : r[m] ∉ r.take m := fun h => by
      have := hs2.2.2 _ h _ (List.mem_cons_self ..)
      omega
    have := hmin r[m] hin.1 ⟨hin.1, hin.2, hno⟩
    omega
theorem rank_done {p : Port} {r : List Nat} (hr : IsRank p r) {m : Nat} (h : ∀ j, j < p.ships.length -> ¬ Left p (r.take m) j) : r.take m = r := by
  rcases Nat.lt_or_ge m r.length with hlt | hge
  · exfalso
    have hin := (hr.mem r[m]).1 (List.getElem_mem hlt)
    refine h r[m] hin.1 ⟨hin.1, hin.2, fun hm => ?_⟩
    have hs := hr.sorted
    rw [<- List.take_append_drop m r, List.drop_eq_getElem_cons hlt] at hs
    have := (List.pairwise_append.1 hs).2.2 _ hm _ (List.mem_cons_self ..)
    omega
  · exact List.take_of_length_le hge
theorem key_lt {p : Port} (h : Plain.Fair p) {i j : Nat} (hi : i < p.ships.length) (hj : j < p.ships.length) :
    ((p.ship i).cls < (p.ship j).cls \/ ((p.ship i).cls = (p.ship j).cls /\ (p.ship i).queued < (p.ship j).queued)) ↔ key (p.ship i) < key (p.ship j) := by
  obtain ⟨s1, q1⟩ := h.ship i hi
  obtain ⟨s2, q2⟩ := h.ship j hj
  have c1 := s1.cls; have c2 := s2.cls; have d1 := s1.queued; have d2 := s2.queued
  have := h.next
  unfold key
  omega
theorem mem_natsI (l : List Nat) (k : Nat) : ((k : Int) ∈ natsI l) ↔ k ∈ l := by
  unfold natsI
  simp only [List.mem_map]
  constructor
  · rintro ⟨a, ha, e⟩; have : a = k := by omega
    subst this; exact ha
  · intro h; exact ⟨k, h, rfl⟩
theorem Seen.perm {w : World} {b n : Nat} {l m : List Int} (h : Seen w b n l) (e : ∀ q, q ∈ l ↔ q ∈ m) : Seen w b n m := by
  obtain ⟨D, a, c, d⟩ := h
  exact ⟨D, a, c, fun q => by rw [d q]; simp [e q]⟩
theorem seen_more {w : World} {b n : Nat} {l : List Int} (h : Seen w b n l) : Seen w b (n + 1) l := by
  obtain ⟨D, ⟨es, clock, h1, h2, h3, h4⟩, c, d⟩ := h
  exact ⟨D, ⟨es, clock, h1, h2, by omega, h4⟩, c, d⟩
theorem Seen.grown {w w' : World} {b n : Nat} {l : List Int} {row : Option Nat} (h : Seen w b n l) (hg : w.grownBy w' row) (hne : some b ≠ row) : Seen w' b n l := by
  obtain ⟨D, a, c, d⟩ := h
  exact ⟨D, a.kept hg hne, c, d⟩
theorem PortAt.grown {w w' : World} {g c : Nat} {p : Port} {A : Option Addr} {row : Option Nat} (h : PortAt w g p A c) (hg : w.grownBy w' row) (hne : some g ≠ row) : PortAt w' g p A c := (hg.block g h.lt hne).trans h
theorem own_grow2 {w w' : World} {base size n : Nat} {T : TypeId} {v : Value} {xs : List Value} {row : Option Nat} (h : w.ownsRow base T size v n xs) (hg : w.grownBy w' row) (hne : ∀ x, v.ownBlock = some x -> some x ≠ row) : w'.ownsRow base T size v n xs := by
  refine ⟨h.1, ?_⟩
  rcases h.2 with hn | ⟨b, cap, cur, hv, hb, hh, rest⟩
  · exact .inl hn
  · exact .inr ⟨b, cap, cur, hv, hb, (hg.block b (Array.getElem?_eq_some_iff.1 hh).1 (hne b (by rw [hv]; rfl))).trans hh, rest⟩
theorem own_ne {w : World} {base e size n k : Nat} {v : Value} {xs : List Value} (h : w.ownsRow base e size v n xs) (hk : k < base) : some k ≠ v.ownBlock := fun e => by have := oBk h k e.symm; omega
set_option maxRecDepth 100000 in
theorem rankedOf_any (p : Port) (A : Option Addr) (c : Nat) (w : World) (hf : Plain.Fair p) (r : List Nat) (hrk : IsRank p r) (hrl : r.length <= p.ships.length) (hin : InP w p A) :
    Calls Tryz.prog 48 #[.agg (portA p A c)] w (RetInts (natsI r) w) := by
  have hlen := hf.len
  have HF := hd_ hf
  have HRK := hd_ hrk
  have hmm := run_makeMap (P := Tryz.prog) 117
  clear hf hrk
  have hP0 : PortAt ((w.alloc (.cells (portA p A c) 36)).alloc (.map #[] 0)) w.heap.size p A c := (PortAt.new w p A c).alloc _
  have hS0 : Seen ((w.alloc (.cells (portA p A c) 36)).alloc (.map #[] 0)) (w.heap.size + 1) 0 [] := by
    have := Seen.made (w.alloc (.cells (portA p A c) 36)); simpa using this
  have hB0 : Below w.heap.size w ((w.alloc (.cells (portA p A c) 36)).alloc (.map #[] 0)) := ((Below.refl _ _).alloc (Nat.le_refl _) _).alloc (by simp) _
  have q1 := hP0.ships
  simp only [portA] at hP0 hS0 hB0 q1 ⊢
  go_enter Tryz.func48, Tryz.ntmps48
  go_wp2_with fail
  go_loopw [3, 12] (fun x3 i wr => ∃ (t : Nat) (L : Option Addr) (cL : Nat), t <= p.ships.length /\ i = .int .i64 t /\ x3 = .slice L (natsI (r.take t)).length cL /\ OwnI wr (w.heap.size + 2) (.slice L (natsI (r.take t)).length cL) (natsI (r.take t)) /\
    Seen wr (w.heap.size + 1) t (natsI (r.take t)) /\ PortAt wr w.heap.size p A c /\ Below w.heap.size w wr) (fun _ i _ => p.ships.length - (intOf i).toNat)
  case atStart => exact ⟨0, none, 0, Nat.zero_le _, rfl, rfl, OwnI.nil _ _, hS0, hP0, hB0⟩
  case round =>
    clear hP0 hS0 hB0 hmm q1
    obtain ⟨t, L, cL, ht, rfl, rfl, hO, hS, hP, hB⟩ := hrel
    have q1 := hP.ships
    have q3 := hP.lt
    have q4 := hS.lt
    by_cases hlt : t < p.ships.length
    · have HPICK := hd_ (fun jb hl hmin => @rank_pick p r HRK.out t jb hl hmin)
      have HDONE := hd_ (fun h => @rank_done p r HRK.out t h)
      have HNXT := hd_ (show r.take t = r -> r.take (t + 1) = r.take t from fun h => by
        have : r.length <= t := by
          have := congrArg List.length h
          rw [List.length_take] at this; omega
        rw [List.take_of_length_le (by omega), h])
      have hol : (r.take t).length <= 14 := by rw [List.length_take]; omega
      generalize r.take t = out at *
      go_wp2_with fail
      go_loopw [5, 17] (fun b i wr => ∃ (k : Nat) (bi : Int), k <= p.ships.length /\ i = .int .i64 k /\ b = .int .i64 bi /\ Best p out k bi /\ OwnI wr (w.heap.size + 2) (.slice L (natsI out).length cL) (natsI out) /\
        Seen wr (w.heap.size + 1) t (natsI out) /\ PortAt wr w.heap.size p A c /\ Below w.heap.size w wr) (fun _ i _ => p.ships.length - (intOf i).toNat)
      case atStart => exact ⟨0, -1, Nat.zero_le _, rfl, rfl, best_start _ _, hO, hS, hP, hB⟩
      case round =>
        clear hO hS hP hB q1 q3 q4
        obtain ⟨k, bi, hk, rfl, rfl, hb, hO, hS, hP, hB⟩ := hrel
        have q1 := hP.ships
        have q3 := hP.lt
        have q4 := hS.lt
        have HO := hd_ hO
        have HS := hd_ hS
        have HP := hd_ hP
        have HBE := hd_ hb
        by_cases hkl : k < p.ships.length
        · obtain ⟨b, off, hA, hbl, hcells⟩ := ships_at (Sl.below hin hB) (by omega)
          subst hA
          obtain ⟨d1, d2, d3, d4, d5, d6⟩ := hcells k hkl
          have HC := hd_ hcells
          have HLE := hd_ (show Left p out k ↔ (p.ship k).state = 1 /\ k ∉ out from ⟨fun h => h.2, fun h => ⟨hkl, h⟩⟩)
          have HKL := hd_ (fun jb (hj : jb < p.ships.length) => key_lt HF.out hkl hj)
          clear hcells hO hS hb
          change wr.cell? _ = some (.int .i64 (p.ship k).state) at d1
          change wr.cell? _ = some (.int .i64 (p.ship k).wide) at d2
          change wr.cell? _ = some (.int .i64 (p.ship k).long) at d3
          change wr.cell? _ = some (.int .i64 (p.ship k).cls) at d4
          change wr.cell? _ = some (.int .i64 (p.ship k).since) at d5
          change wr.cell? _ = some (.int .i64 (p.ship k).queued) at d6
          have hg : ∀ m : Nat, OwnI ((wr.alloc (.cells (shipV (p.ship k)) 61)).drewN m) (w.heap.size + 2) (.slice L (natsI out).length cL) (natsI out) /\ Seen ((wr.alloc (.cells (shipV (p.ship k)) 61)).drewN m) (w.heap.size + 1) t (natsI out) /\
              PortAt ((wr.alloc (.cells (shipV (p.ship k)) 61)).drewN m) w.heap.size p (some ⟨b, off, none⟩) c /\ Below w.heap.size w ((wr.alloc (.cells (shipV (p.ship k)) 61)).drewN m) := fun m =>
            ⟨HO.out.alloc _, (HS.out.alloc _).drewN m, (HP.out.alloc _).drewN m, bdN (hB.alloc hB.size _) m⟩
          simp only [shipV] at hg
          have HG := hd_ hg
          clear hg
          by_cases e1 : (p.ship k).state = 1
          · by_cases e2 : k ∈ out
            · have HM := hd_ (show decide ((k : Int) ∈ natsI out) = true by simpa using (mem_natsI out k).2 e2)
              have HB2 := hd_ (best_skip HBE.out (fun h => h.2.2 e2))
              have hrun := (HS.out.alloc (.cells (shipV (p.ship k)) 61)).look (q := (k : Int)) (by unfold i64; omega)
              rw [HM.out] at hrun
              simp only [shipV] at hrun
              rw [e1] at d1 hrun HG
              clear e1 HKL
              go_wp2_with fail
              go_roundw
              case rel => exact ⟨k + 1, bi, by omega, by go_num, rfl, HB2.out, HG.out 0⟩
              case measure => simp [intOf] <;> omega
            · have HM := hd_ (show decide ((k : Int) ∈ natsI out) = false by simpa using fun h => e2 ((mem_natsI out k).1 h))
              have HLF := hd_ (HLE.out.2 ⟨e1, e2⟩)
              have hrun := (HS.out.alloc (.cells (shipV (p.ship k)) 61)).look (q := (k : Int)) (by unfold i64; omega)
              rw [HM.out] at hrun
              simp only [shipV] at hrun
              rw [e1] at d1 hrun HG
              clear e1 e2
              rcases HBE.out with ⟨hbi, hno⟩ | ⟨jb, hbi, hj1, hj2, hj3⟩
              · have HB2 := hd_ (best_take HBE.out HLF.out (.inl hbi))
                clear hno
                subst hbi
                go_wp2_with fail
                go_quiet (fail)
                go_wp2_with fail
                go_roundw
                case rel => exact ⟨k + 1, k, by omega, by go_num, rfl, HB2.out, HG.out _⟩
                case measure => simp [intOf] <;> omega
              · subst hbi
                have HBT := hd_ (fun h => best_take HBE.out HLF.out (.inr ⟨jb, rfl, h⟩))
                have HBK := hd_ (fun h => best_keep HBE.out h)
                have hjl : jb < p.ships.length := by omega
                have HKJ := hd_ (HKL.out jb hjl)
                obtain ⟨_, _, _, f4, _, f6⟩ := HC.out jb hjl
                change wr.cell? _ = some (.int .i64 (p.ship jb).cls) at f4
                change wr.cell? _ = some (.int .i64 (p.ship jb).queued) at f6
                clear hj2 hj3 HKL HLE
                have d0 : decide ((jb : Int) < 0) = false := by simp <;> omega
                generalize (p.ship jb).cls = jc at *
                generalize (p.ship jb).queued = jq at *
                obtain ⟨kc, hkc⟩ : ∃ x, (p.ship k).cls = x := ⟨_, rfl⟩
                obtain ⟨kq, hkq⟩ : ∃ x, (p.ship k).queued = x := ⟨_, rfl⟩
                rw [hkc] at d4 hrun HG HKJ
                rw [hkq] at d6 hrun HG HKJ
                clear hkc hkq
                by_cases g1 : kc < jc
                · have HB2 := hd_ (HBT.out (Int.le_of_lt (HKJ.out.1 (.inl g1))))
                  have t1 : decide (kc < jc) = true := by simpa using g1
                  clear HBT HBK HKJ
                  go_wp2_with fail
                  go_quiet (fail)
                  go_wp2_with fail
                  go_roundw
                  case rel => exact ⟨k + 1, k, by omega, by go_num, rfl, HB2.out, HG.out _⟩
                  case measure => simp [intOf] <;> omega
                · have t1 : decide (kc < jc) = false := by simpa using g1
                  by_cases g2 : kc = jc
                  · by_cases g3 : kq < jq
                    · have HB2 := hd_ (HBT.out (Int.le_of_lt (HKJ.out.1 (.inr ⟨g2, g3⟩))))
                      have t2 : (kc == jc) = true := by simpa using g2
                      have t3 : decide (kq < jq) = true := by simpa using g3
                      clear HBT HBK HKJ g2
                      go_wp2_with fail
                      go_quiet (fail)
                      go_wp2_with fail
                      go_roundw
                      case rel => exact ⟨k + 1, k, by omega, by go_num, rfl, HB2.out, HG.out _⟩
                      case measure => simp [intOf] <;> omega
                    · have HB2 := hd_ (HBK.out (by
                        rcases Int.lt_or_le (key (p.ship k)) (key (p.ship jb)) with h | h
                        · rcases HKJ.out.2 h with h | ⟨_, h⟩ <;> omega
                        · exact h))
                      have t2 : (kc == jc) = true := by simpa using g2
                      have t3 : decide (kq < jq) = false := by simpa using g3
                      clear HBT HBK HKJ g2
                      go_wp2_with fail
                      go_quiet (fail)
                      go_wp2_with fail
                      go_roundw
                      case rel => exact ⟨k + 1, jb, by omega, by go_num, rfl, HB2.out, HG.out _⟩
                      case measure => simp [intOf] <;> omega
                  · have HB2 := hd_ (HBK.out (by
                      rcases Int.lt_or_le (key (p.ship k)) (key (p.ship jb)) with h | h
                      · rcases HKJ.out.2 h with h | ⟨h, _⟩ <;> omega
                      · exact h))
                    obtain ⟨a1, a2, a3⟩ := ne_facts' g2
                    clear HBT HBK HKJ
                    go_wp2_with fail
                    go_quiet (fail)
                    go_wp2_with fail
                    go_roundw
                    case rel => exact ⟨k + 1, jb, by omega, by go_num, rfl, HB2.out, HG.out _⟩
                    case measure => simp [intOf] <;> omega
          · have HB2 := hd_ (best_skip HBE.out (fun h => e1 h.2.1))
            obtain ⟨a1, a2, a3⟩ := ne_facts' e1
            clear HKL
            go_wp2_with fail
            go_roundw
            case rel => exact ⟨k + 1, bi, by omega, by go_num, rfl, HB2.out, HG.out 0⟩
            case measure => simp [intOf] <;> omega
        · obtain rfl : k = p.ships.length := by omega
          rcases HBE.out with ⟨hbi, hno⟩ | ⟨jb, hbi, hj1, hj2, hj3⟩
          · have HN := hd_ (HNXT.out (HDONE.out (fun j hj => hno j hj)))
            clear hno hb
            subst hbi
            go_wp2_with fail
            go_roundw
            case rel => exact ⟨t + 1, L, cL, by omega, by go_num, by rw [HN.out], by rw [HN.out]; exact HO.out, by rw [HN.out]; exact seen_more HS.out, HP.out, hB⟩
            case measure => simp [intOf] <;> omega
          · have HN := hd_ (HPICK.out jb hj2 hj3)
            clear hb hj2 hj3
            subst hbi
            have d0 : decide ((jb : Int) >= 0) = true := by simp
            have hsz : w.heap.size + 2 <= wr.heap.size := q4
            have hqj : i64 (jb : Int) := by unfold i64; omega
            have hrow : ∀ x, (Value.slice L (natsI out).length cL).ownBlock = some x -> w.heap.size + 2 <= x := fun x hx => oBk HO.out x hx
            have HROW := hd_ hrow
            clear hrow
            go_wp2_with (first
              | (at_mapUpdate; refine wpList_put_seen rfl rfl rfl rfl rfl HS.out (by omega) hqj ?_; intro w3 hS3 hg3; have hO3 := own_grow2 HO.out hg3 (fun x hx e => by have := HROW.out x hx; have e2 := Option.some.inj e; omega); have ho2 := World.ownsRow.alloc hO3 (.cells #[.int .i64 jb] 3); have hh := heap_alloc_new w3 (.cells #[.int .i64 jb] 3); have hs3 := hg3.size)
              | (at_builtin; refine wpList_append_int rfl _ _ rfl (w.heap.size + 2) _ _ rfl ho2 w3.heap.size 1 jb rfl hh (by rw [nIl]; omega) (by simp <;> omega) ?_; intro v' w' ho' hg'))
            have hP4 := ((HP.out.grown hg3 (by simp)).alloc (.cells #[.int .i64 jb] 3)).grown hg' (own_ne ho2 (by omega))
            have hS4 := ((hS3.alloc (.cells #[.int .i64 jb] 3)).grown hg' (own_ne ho2 (by omega))).perm (m := natsI (out ++ [jb])) (fun q => by rw [natsI_snoc]; simp [or_comm])
            have hB4 := grown_below ((hB.grown hg3 hB.size (fun x hx => by cases hx; omega)).alloc (Nat.le_trans hB.size hs3) (.cells #[.int .i64 jb] 3)) hg' ho2 (by omega) (by simp; have := hB.size; omega)
            rw [<- natsI_snoc, <- HN.out] at ho'
            rw [<- HN.out] at hS4
            obtain ⟨L', c', rfl⟩ := own_form ho'
            have HFIN := hd_ (And.intro ho' (And.intro hS4 (And.intro hP4 hB4)))
            go_roundw
            case rel => exact ⟨t + 1, L', c', by omega, by go_num, rfl, HFIN.out⟩
            case measure => simp [intOf] <;> omega
    · obtain rfl : t = p.ships.length := by omega
      have HE := hd_ (show r.take p.ships.length = r from List.take_of_length_le hrl)
      rw [HE.out] at hO ⊢
      go_wp2_with fail
      go_ret
      exact ⟨L, cL, rfl, Sl.of_own hO, hB, (fr_own hO).mono (by omega)⟩
def veilOp (o : Op) : Op := o
def veilLoad (ty : TypeId) (v : Value) : Sem Next := do pure (.value (<- Instr.loadAt ty v))
def veilStore (ty : TypeId) (v x : Value) : Sem Next := do Instr.storeAt ty v x; pure .skip
theorem execOp_veilLoad (r : Operand -> Value) (dst : Option Tmp) (ty : TypeId) (x : Operand) (type : TypeId) (pos : String) (after : Array Edge) (guard : Option (Nat × Bool)) :
    execOp r { dst, op := veilOp (.load ty x), type, pos, after, guard } = veilLoad ty (r x) := rfl
theorem execOp_veilStore (r : Operand -> Value) (dst : Option Tmp) (ty : TypeId) (x y : Operand) (type : TypeId) (pos : String) (after : Array Edge) (guard : Option (Nat × Bool)) :
    execOp r { dst, op := veilOp (.store ty x y), type, pos, after, guard } = veilStore ty (r x) (r y) := rfl
theorem arr_info : (Tryz.prog.info? 91).map (·.size) = some 300 := by
  have := congrArg (Option.map Prod.fst) arr_zero
  rw [Option.map_map] at this
  exact this
theorem run_veilLoad {w : World} {g : Nat} {fs : List Int} (h : Arr w g fs) :
    (veilLoad 91 (.pointer (some ⟨g, 0, none⟩))).run Tryz.prog w = .ok (.value (.agg (arr fs))) w := by
  unfold veilLoad
  simp only [Instr.loadAt, Instr.sureAddr, Sem.run_bind, Sem.run_pure, Result.andThen_ok, run_loadVar_row w g 91 91 (arr fs) (0, 0) (.array 300 3) h.at_ (by kernel_rfl) rfl (by rw [arr_info, arr_size, h.len])]
theorem run_veilStore {w : World} {g : Nat} {fs gs : List Int} (h : Arr w g fs) (hl : gs.length = 300) :
    (veilStore 91 (.pointer (some ⟨g, 0, none⟩)) (.agg (arr gs))).run Tryz.prog w = .ok .skip (w.setRow g (arr gs)) := by
  unfold veilStore
  simp only [Instr.storeAt, Instr.sureAddr, Sem.run_bind, Sem.run_pure, Result.andThen_ok, run_storeVar_row w g 91 91 (arr fs) (arr gs) h.at_ (by rw [arr_info, arr_size, hl]) (by rw [arr_size, arr_size, h.len, hl]) (arr_one gs)]
end Go.Proofs.YtifmdkcpbajdcabGreatDoor
namespace Go.Proofs.YtifmdkcpbajdcabGreatDoor
open Plain
structure PT (p : Port) (r : List Nat) (k : Nat) (fs : List Int) : Prop where
  tab : Tab fs
  eq : ∀ u : Nat, u < 300 -> val (planAt p r k).1 u = fs.getD u 0
theorem pt_start {p : Port} (h : PGood p) (r : List Nat) {fs : List Int} (hl : fs.length = 300) (hfs : ∀ u : Nat, u < 300 -> fs.getD u 0 = freeOf p u) : PT p r 0 fs := by
  obtain ⟨g1, g2⟩ := (base_good h.toFair).2 ((base_good h.toFair).1.2 h.room)
  have he : ∀ u : Nat, u < 300 -> val (baseL p).1 u = fs.getD u 0 := fun u hu => by rw [hfs u hu, g2 u (by omega) (by omega)]
  exact ⟨⟨hl, fun t ht => by rw [<- he t ht]; exact val_range g1 t⟩, he⟩
theorem rank_nodup {p : Port} {r : List Nat} (hr : IsRank p r) {k : Nat} (hk : k < r.length) : r.getD k 0 ∉ r.take k := fun hm => by
  have hs := hr.sorted
  rw [<- List.take_append_drop k r, List.drop_eq_getElem_cons hk] at hs
  have := (List.pairwise_append.1 hs).2.2 _ hm _ (List.mem_cons_self ..)
  rw [List.getD_eq_getElem?_getD, List.getElem?_eq_getElem hk] at this
  exact absurd this (by simp)
theorem planAt_out (p : Port) (r : List Nat) : ∀ k, k <= r.length -> ∀ i, i ∉ r.take k -> (planAt p r k).2.getD i (-1) = -1
  | 0, _, i, _ => by
    show (noneL p.ships.length).getD i (-1) = -1
    unfold noneL
    rw [List.getD_eq_getElem?_getD, List.getElem?_replicate]
    split <;> rfl
  | k + 1, hk, i, hi => by
    have hkl : k < r.length := by omega
    rw [List.take_succ_eq_append_getElem hkl, List.mem_append, List.mem_singleton] at hi
    have ih := planAt_out p r k (by omega) i (fun h => hi (.inl h))
    have hne : i ≠ r.getD k 0 := fun e => hi (.inr (by rw [e, List.getD_eq_getElem?_getD, List.getElem?_eq_getElem hkl]; rfl))
    rw [planAt]
    unfold planStep
    split
    · show ((planAt p r k).2.set _ _).getD i (-1) = -1
      simp only [List.getD_eq_getElem?_getD] at ih hne ⊢
      rw [List.getElem?_set_ne (fun e => hne e.symm)]
      exact ih
    · exact ih
theorem pt_next {p : Port} {r : List Nat} {k : Nat} {fs : List Int} (hg : PGood p) (hr : IsRank p r) (hk : k < r.length) (h : PT p r k fs) {v : Int}
    (hv : First (tabF fs) p.now (p.ship (r.getD k 0)).long (p.ship (r.getD k 0)).wide v) :
    (planAt p r (k + 1)).2 = (planAt p r k).2.set (r.getD k 0) v /\
    ((v = -1 /\ PT p r (k + 1) fs) \/ (0 <= v /\ v + (p.ship (r.getD k 0)).long <= 300 /\ lessOk fs v (v + (p.ship (r.getD k 0)).long) (p.ship (r.getD k 0)).wide = true /\ PT p r (k + 1) (lessL fs v (v + (p.ship (r.getD k 0)).long) (p.ship (r.getD k 0)).wide))) := by
  obtain ⟨i0, i1⟩ := rank_get hr hk
  have hout := planAt_out p r k (by omega) _ (rank_nodup hr hk)
  have hG := planAt_good hg r k
  have hst : planAt p r (k + 1) = planStep p (planAt p r k) (r.getD k 0) := rfl
  obtain ⟨hs, _⟩ := hg.ship _ i0
  have hw := hs.wide
  have hlo := hs.long
  have hn := hg.now
  have hmx : max 0 p.now = p.now := by omega
  have hf := fitL_first (fr := max 0 p.now) (n := (p.ship (r.getD k 0)).wide) hG (by omega) hlo.1 hlo.2 (by omega)
  have hev : fitL (planAt p r k).1 (max 0 p.now) (p.ship (r.getD k 0)).long (p.ship (r.getD k 0)).wide = v := by
    rw [hmx] at hf ⊢
    refine First.unique hn.1 (fun u u0 u1 => ?_) hf hv
    have := h.eq u.toNat (by omega)
    rwa [show ((u.toNat : Nat) : Int) = u by omega] at this
  rcases First.none_or hn.1 hv with e | ⟨e1, e2, e3⟩
  · subst e
    have := planStep_no (p := p) (s := planAt p r k) (i := r.getD k 0) (by omega)
    rw [this] at hst
    refine ⟨?_, .inl ⟨rfl, h.tab, fun u hu => by rw [hst]; exact h.eq u hu⟩⟩
    rw [hst, set_same _ _ hout]
  · have := planStep_yes (p := p) (s := planAt p r k) (i := r.getD k 0) hev e2
    rw [this] at hst
    have hfit := e3.2
    have hok : lessOk fs v (v + (p.ship (r.getD k 0)).long) (p.ship (r.getD k 0)).wide = true := (lessOk_iff fs _ _ _ e3.1).2 fun t t1 t2 => by
      have a := hfit t t1 t2
      have b := h.tab.2 t (by have := e3.1; omega)
      unfold tabF at a
      rw [Int.toNat_natCast] at a
      omega
    have hTA : takeL (planAt p r k).1 v (v + (p.ship (r.getD k 0)).long) (p.ship (r.getD k 0)).wide = addL (planAt p r k).1 v (v + (p.ship (r.getD k 0)).long) (-(p.ship (r.getD k 0)).wide) := by
      unfold takeL; rw [if_pos ⟨by omega, hw.2⟩]
    obtain ⟨b1, b2⟩ := add_less (n := (p.ship (r.getD k 0)).wide) hG h.eq e2 (show v <= v + (p.ship (r.getD k 0)).long by omega) e3.1
    obtain ⟨c1, c2⟩ := b2 (b1.trans hok)
    refine ⟨by rw [hst], .inr ⟨e2, e3.1, hok, ⟨lessL_len _ _ _ _, fun t ht => ?_⟩, fun u hu => ?_⟩⟩
    · rw [<- c2 t ht]; exact val_range c1 t
    · rw [hst]
      show val (takeL _ _ _ _).1 u = _
      rw [hTA]; exact c2 u hu
theorem pt_all {p : Port} {r : List Nat} (hg : PGood p) (hr : IsRank p r) : (planAt p r r.length).2 = thP p := by
  rw [planAt_all ((base_good hg.toFair).1.2 hg.room), planL_the hg hr]
end Go.Proofs.YtifmdkcpbajdcabGreatDoor
namespace Go.Proofs.YtifmdkcpbajdcabGreatDoor
open Go.RowKit Go.Proofs Plain
open Go.Act renaming put -> aP, eval -> aE
open Go.Lib renaming hid -> hd_
theorem OwnI.cell {w : World} {base g c : Nat} {l : List Int} (h : OwnI w base (.slice (some ⟨g, 0, none⟩) l.length c) l) (j : Nat) (hj : j < l.length) : w.cell? ⟨g, j, none⟩ = some (.int .i64 (l.getD j 0)) := by
  rw [World.ownsRow.cellAt h j (by omega), List.getElem?_map, List.getElem?_eq_getElem hj, List.getD_eq_getElem?_getD, List.getElem?_eq_getElem hj]; rfl
theorem OwnI.frozen {w : World} {base g c : Nat} {l : List Int} (h : OwnI w base (.slice (some ⟨g, 0, none⟩) l.length c) l) (j : Nat) : w.frozen? ⟨g, j, none⟩ = false := World.ownsRow.frozenAt h j
theorem OwnI.set {w : World} {base g c : Nat} {l : List Int} (h : OwnI w base (.slice (some ⟨g, 0, none⟩) l.length c) l) (j : Nat) (v : Int) : OwnI (w.setCell ⟨g, j, none⟩ (.int .i64 v)) base (.slice (some ⟨g, 0, none⟩) (l.set j v).length c) (l.set j v) := by
  have := (World.ownsRow.stored h j (.int .i64 v)).1
  unfold OwnI
  rw [List.length_set, List.map_set]; exact this
theorem OwnI.row {w w' : World} {base k c : Nat} {L : Option Addr} {l : List Int} (h : OwnI w base (.slice L l.length c) l) (hr : OneRow k w w') (hk : ∀ x, L = some x -> x.block < k) : OwnI w' base (.slice L l.length c) l := by
  refine ⟨h.1, ?_⟩
  rcases h.2 with hn | ⟨b, cap, cur, hv, hb, hh, rest⟩
  · exact .inl hn
  · refine .inr ⟨b, cap, cur, hv, hb, (hr.block b (fun e => ?_)).trans hh, rest⟩
    injection hv with e1
    have := hk _ e1
    simp only at this
    omega
theorem sl_one {w w' : World} {size n g : Nat} {A : Option Addr} {xs : List Value} (h : Sl w size A n xs) (hr : OneRow g w w') (hA : Fr (g + 1) A) : Sl w' size A n xs :=
  ⟨h.1, fun hn => by
    obtain ⟨b, off, e, hc⟩ := h.2 hn
    have hb := hA _ e
    exact ⟨b, off, e, fun i hi => (hr.cell b (off + i) (by simp only at hb ⊢; omega)).trans (hc i hi)⟩⟩
theorem none_next (k : Nat) : noneL k ++ [-1] = noneL (k + 1) := by
  unfold noneL; rw [List.replicate_succ']
structure QS (w wr : World) (p : Port) (A : Option Addr) (c : Nat) (L : Option Addr) (cO gB : Nat) (A3 : Option Addr) (r : List Nat) (out fs : List Int) : Prop where
  port : PortAt wr w.heap.size p A c
  tab : Arr wr gB fs
  out : OwnI wr (w.heap.size + 1) (.slice L out.length cO) out
  rank : Sl wr 1 A3 r.length ((natsI r).map (Value.int .i64))
  below : Below w.heap.size w wr
  lo : w.heap.size < gB
  lt : ∀ x, L = some x -> x.block < gB
  fr : Fr (gB + 1) A3
section
variable {w wr w' : World} {p : Port} {A : Option Addr} {c cO gB : Nat} {L A3 : Option Addr} {r : List Nat} {out fs : List Int}
theorem QS.alloc (h : QS w wr p A c L cO gB A3 r out fs) (o : Obj) : QS w (wr.alloc o) p A c L cO gB A3 r out fs :=
  ⟨h.port.alloc o, h.tab.alloc o, h.out.alloc o, h.rank.alloc o, h.below.alloc h.below.size o, h.lo, h.lt, h.fr⟩
theorem QS.go (h : QS w wr p A c L cO gB A3 r out fs) (hb : Below wr.heap.size wr w') : QS w w' p A c L cO gB A3 r out fs :=
  ⟨h.port.below hb h.port.lt, h.tab.below hb h.tab.lt, h.out.below hb, h.rank.below hb, bG_ h.below hb, h.lo, h.lt, h.fr⟩
theorem QS.drewN (h : QS w wr p A c L cO gB A3 r out fs) (n : Nat) : QS w (wr.drewN n) p A c L cO gB A3 r out fs :=
  ⟨h.port, h.tab.drewN n, h.out, Sl.drewN h.rank n, bdN h.below n, h.lo, h.lt, h.fr⟩
theorem QS.set {g : Nat} (h : QS w wr p A c (some ⟨g, 0, none⟩) cO gB A3 r out fs) (j : Nat) (v : Int) : QS w (wr.setCell ⟨g, j, none⟩ (.int .i64 v)) p A c (some ⟨g, 0, none⟩) cO gB A3 r (out.set j v) fs := by
  have h1 := h.lo
  have h2 := h.lt _ rfl
  simp only at h2
  have h3 : w.heap.size + 1 <= g := oBk h.out g rfl
  exact ⟨h.port.beside _ _ (by simp; omega), h.tab.beside _ _ (by simp; omega), h.out.set j v, h.rank.beside (h.fr.mono (by omega)) _, h.below.setCell (by simp; omega) _, h1, h.lt, h.fr⟩
theorem QS.row (h : QS w wr p A c L cO gB A3 r out fs) {gs : List Int} (hr : OneRow gB wr w') (ha : Arr w' gB gs) : QS w w' p A c L cO gB A3 r out gs := by
  have h1 := h.lo
  exact ⟨h.port.below (hr.below (n := gB) (Nat.le_refl _)) h1, ha, h.out.row hr h.lt, sl_one h.rank hr h.fr, h.below.trans (hr.below (by omega)), h1, h.lt, h.fr⟩
end
attribute [local go_sem ↓] execOp_veilLoad execOp_veilStore
set_option maxRecDepth 100000 in
theorem planOf_any (p : Port) (A : Option Addr) (c : Nat) (w : World) (hg : PGood p) (r : List Nat) (hrk : IsRank p r) (hrl : r.length <= p.ships.length) (hin : InP w p A) :
    Calls Tryz.prog 22 #[.agg (portA p A c)] w (RetInts (thP p) w) := by
  have hlen := hg.len
  have hn := hg.now
  have HG := hd_ hg
  have HRK := hd_ hrk
  clear hg hrk
  have hP0 : PortAt (w.alloc (.cells (portA p A c) 36)) w.heap.size p A c := PortAt.new w p A c
  have hB0 : Below w.heap.size w (w.alloc (.cells (portA p A c) 36)) := (Below.refl _ _).alloc (Nat.le_refl _) _
  have q1 := hP0.ships
  simp only [portA] at hP0 hB0 q1 ⊢
  go_enter Tryz.func22, Tryz.ntmps22
  go_wp2_with fail
  go_loopw [3, 12] (fun x3 i wr => ∃ (t : Nat) (L : Option Addr) (cL : Nat), t <= p.ships.length /\ i = .int .i64 t /\ x3 = .slice L (noneL t).length cL /\ OwnI wr (w.heap.size + 1) (.slice L (noneL t).length cL) (noneL t) /\ PortAt wr w.heap.size p A c /\ Below w.heap.size w wr) (fun _ i _ => p.ships.length - (intOf i).toNat)
  case atStart => exact ⟨0, none, 0, Nat.zero_le _, rfl, rfl, OwnI.nil _ _, hP0, hB0⟩
  case round =>
    clear hP0 hB0 q1
    obtain ⟨t, L, cL, ht, rfl, rfl, hO, hP, hB⟩ := hrel
    have hnl : (noneL t).length = t := List.length_replicate
    by_cases hlt : t < p.ships.length
    · have HN := hd_ (none_next t)
      have ho2 := hO.alloc (.cells #[.int .i64 (-1)] 3)
      have hh := heap_alloc_new wr (.cells #[.int .i64 (-1)] 3)
      have q3 := hP.lt
      go_wp2_with (at_builtin; refine wpList_append_int rfl _ _ rfl (w.heap.size + 1) _ _ rfl ho2 wr.heap.size 1 (-1) rfl hh (by rw [hnl]; omega) (by simp <;> omega) ?_; intro v' w' ho' hg')
      have hP4 := (hP.alloc (.cells #[.int .i64 (-1)] 3)).grown hg' (own_ne ho2 (by omega))
      have hB4 := grown_below (hB.alloc hB.size (.cells #[.int .i64 (-1)] 3)) hg' ho2 (by omega) (by simp; have := hB.size; omega)
      rw [HN.out] at ho'
      obtain ⟨L', c', rfl⟩ := own_form ho'
      go_roundw
      case rel => exact ⟨t + 1, L', c', by omega, by go_num, rfl, ho', hP4, hB4⟩
      case measure => simp [intOf] <;> omega
    · obtain rfl : t = p.ships.length := by omega
      have HPT := hd_ (fun fs => @pt_start p HG.out r fs)
      have HNX := hd_ (fun k fs => @pt_next p r k fs HG.out HRK.out)
      have HALL := hd_ (pt_all HG.out HRK.out)
      have q3 := hP.lt
      rw [hnl]
      go_wp2_with (first
        | (refine wLP rfl rfl (by first | rfl | simp [aE, aP]) hP ?_)
        | (go_at_call 47; refine (baseOf_any p A c _ HG.out.toFair (Sl.below hin hB)).mono ?_; rintro e w2 ⟨fs, hfl, hfs, rfl, hb2⟩; have hP2 := hP.below hb2 hP.lt; have hO2 := hO.below hb2; have hB2 := bG_ hB hb2; have hz2 := hb2.size)
        | (refine wAA rfl rfl ?_; intro w3 gB b1 b2 hA3 hb3; have hP3 := hP2.below hb3 hP2.lt; have hO3 := hO2.below hb3; have hB3 := bG_ hB2 hb3)
        | (refine wSA rfl rfl (by first | rfl | simp [aE, aP]) (by first | rfl | simp [aE, aP]) hA3 hfl ?_; intro w4 hA4 hr4; have hP4 := PortAt.below hP3 (hr4.below (n := gB) (Nat.le_refl _)) (by omega))
        | (refine wLP rfl rfl (by first | rfl | simp [aE, aP]) hP4 ?_)
        | (go_at_call 48; refine (rankedOf_any p A c _ HG.out.toFair r HRK.out hrl (Sl.below hin (hB3.trans (hr4.below (by omega))))).mono ?_; rintro e w5 ⟨A3, c3, rfl, h3, hb5, hr5⟩))
      have hB4 := hB3.trans (hr4.below (n := w.heap.size) (by omega))
      have hO4 := hO3.row hr4 (fun x hx => by have := World.ownsRow.lt hO x.block (by rw [hx]; rfl); omega)
      have hS : QS w w5 p A c L cL gB A3 r (noneL p.ships.length) fs := ⟨PortAt.below hP4 hb5 (PortAt.lt hP4), hA4.below hb5 hA4.lt, hO4.below hb5, by rw [nIl] at h3; exact h3, bG_ hB4 hb5, by omega, fun x hx => by have := World.ownsRow.lt hO x.block (by rw [hx]; rfl); omega, hr5.mono hA4.lt⟩
      rw [nIl]
      have hPT := HPT.out fs hfl hfs
      clear hO hP hB hP2 hO2 hB2 hb2 hA3 hb3 hP3 hO3 hB3 b1 b2 hA4 hr4 hP4 hB4 hO4 h3 hb5 hr5 hfs HPT q3
      go_wp2_with fail
      go_loopw [26] (fun i wr => ∃ (k : Nat) (fs : List Int), k <= r.length /\ i = .int .i64 k /\ PT p r k fs /\ QS w wr p A c L cL gB A3 r (planAt p r k).2 fs) (fun i _ => r.length - (intOf i).toNat)
      case atStart => exact ⟨0, fs, Nat.zero_le _, rfl, hPT, hS⟩
      case round =>
        clear hS hPT
        obtain ⟨k, fs, hk, rfl, hPT, hS⟩ := hrel
        have hol := planAt_len p r k
        by_cases hlt : k < r.length
        · obtain ⟨b3, off3, hA3, hbl3, hc3⟩ := ints_at (l := natsI r) (by rw [nIl]; exact hS.rank) (by rw [nIl]; omega)
          subst hA3
          have e3 := hc3 k (by rw [nIl]; exact hlt)
          rw [natsI_get _ _ hlt] at e3
          clear hc3
          obtain ⟨i0, i1⟩ := rank_get HRK.out hlt
          have HN := hd_ (fun v h => HNX.out k fs hlt hPT (v := v) h)
          have hso := (HG.out.ship _ i0).1
          have hw := hso.wide
          have hlg := hso.long
          clear hso
          have HTB := hd_ hPT.tab
          obtain ⟨gO, hL, _, _⟩ := ints_own hS.out (by omega)
          subst hL
          obtain ⟨bs, offs, hA, hbl, hcells⟩ := ships_at (Sl.below hin hS.below) (by omega)
          subst hA
          obtain ⟨R, hR⟩ : ∃ R, (planAt p r k).2 = R := ⟨_, rfl⟩
          obtain ⟨j, hj⟩ : ∃ j, r.getD k 0 = j := ⟨_, rfl⟩
          rw [hR] at hS hol HN
          rw [hj] at e3 i0 i1 HN hw hlg
          clear hR hj hPT
          obtain ⟨d1, d2, d3, d4, d5, d6⟩ := hcells j i0
          clear hcells
          change wr.cell? _ = some (.int .i64 (p.ship j).state) at d1
          change wr.cell? _ = some (.int .i64 (p.ship j).wide) at d2
          change wr.cell? _ = some (.int .i64 (p.ship j).long) at d3
          change wr.cell? _ = some (.int .i64 (p.ship j).cls) at d4
          change wr.cell? _ = some (.int .i64 (p.ship j).since) at d5
          change wr.cell? _ = some (.int .i64 (p.ship j).queued) at d6
          generalize p.ship j = x at *
          obtain ⟨sst, wd, lg, cl, si, qu⟩ := x
          dsimp only at *
          clear i1
          have q0 := hS.port.now
          have q1 := hS.port.ships
          have q3 := hS.port.lt
          have q4 := hS.tab.lt
          have q5 : gO < wr.heap.size := (World.ownsRow.lt hS.out gO rfl).2
          have hS1 := hS.alloc (.cells (shipV ⟨sst, wd, lg, cl, si, qu⟩) 61)
          have HS1 := hd_ hS1
          have hA1 := hS1.tab
          simp only [shipV] at hA1 HS1
          clear hS1
          go_wp2_with (refine wpList_load_arr rfl rfl (by first | rfl | simp [aE, aP]) hA1 ?_)
          refine (first_any fs p.now lg wd _ HTB.out.1 (by omega) (by omega) (by omega) (by omega)).mono ?_
          rintro e w6 ⟨v, hv, rfl, hb6⟩
          have HN2 := hd_ (HN.out v hv)
          clear HN hv
          have hS6 := HS1.out.go hb6
          have hc6 := hS6.out.cell j (by omega)
          have hf6 := hS6.out.frozen j
          have hx6 := ship_kept (g := gO) (j := j) (t := v) (s := ⟨sst, wd, lg, cl, si, qu⟩) q5 hb6
          have hx61 := hx6 1 (by omega)
          have hx62 := hx6 2 (by omega)
          simp only [shipV] at hx61 hx62
          have hy6 := hS6.set j v
          have HY := hd_ hy6
          have hz6 := hb6.size
          simp only [World.size_alloc] at hz6
          have hd6 : (w6.setCell ⟨gO, j, none⟩ (.int .i64 v)).cell? ⟨gO, j, none⟩ = some (.int .i64 v) := by
            have := hy6.out.cell j (by rw [List.length_set]; omega)
            rw [List.getD_eq_getElem?_getD, List.getElem?_set_self (by omega)] at this; exact this
          clear hx6 hy6 HS1 hA1
          rcases HN2.out.2 with ⟨hv, hPT⟩ | ⟨v0, v300, hok, hPT⟩
          · have HPT := hd_ hPT
            have HQ := hd_ HN2.out.1
            clear hPT HN2
            subst hv
            go_wp2_with fail
            go_roundw
            case rel => exact ⟨k + 1, fs, by omega, by go_num, HPT.out, by rw [HQ.out]; exact HY.out⟩
            case measure => simp [intOf] <;> omega
          · have HPT := hd_ hPT
            have HQ := hd_ HN2.out.1
            have HOK := hd_ hok
            clear hPT HN2 hok
            have t0 : decide (v >= 0) = true := by simpa using v0
            go_wp2_with fail
            have hAY := HY.out.tab
            have hAd : Arr (w6.setCell ⟨gO, j, none⟩ (.int .i64 v)).drew gB fs := ⟨hAY.len, hAY.at_⟩
            have hld := run_veilLoad hAd
            have hzY : (w6.setCell ⟨gO, j, none⟩ (.int .i64 v)).heap.size = w6.heap.size := by simp
            have hbx : gO ≠ gB := by have := HY.out.lt _ rfl; simp only at this; omega
            have hby : wr.heap.size ≠ gB := by omega
            have HLL := hd_ (lessL_len fs v (v + lg) wd)
            have hwr : IntKind.i64.wrap (v + lg) = v + lg := IntWalk.i64_in _ (by omega)
            have hgl : gO < w6.heap.size := by omega
            rw [show Op.load 91 (Operand.tmp 4) = veilOp (Op.load 91 (Operand.tmp 4)) from rfl,
              show Op.store 91 (Operand.tmp 4) (Operand.tmp 67) = veilOp (Op.store 91 (Operand.tmp 4) (Operand.tmp 67)) from rfl]
            go_region_held3 (fun w' => w'.cell? ⟨gO, j, none⟩ = some (.int .i64 v) /\ w'.cell? ⟨wr.heap.size, 1, none⟩ = some (.int .i64 wd) /\ w'.cell? ⟨wr.heap.size, 2, none⟩ = some (.int .i64 lg))
              (first
                | (exact ⟨(hset _ _ hbx).trans hk1, (hset _ _ hby).trans hk2, (hset _ _ hby).trans hk3⟩)
                | (exact ⟨hk1, hk2, hk3⟩)
                | (exact ⟨hd6, hx61, hx62⟩))
              (first
                | (go_at_call 50; refine (less_any fs v (v + lg) wd _ HTB.out (by omega) (by omega) (by omega) (by omega) (by omega)).mono ?_; rintro e w7 ⟨rfl, hb7⟩; rw [if_pos HOK.out, HOK.out]; have hb7' := bUn hb7; have hA7 := hAY.below hb7' (by rw [hzY]; omega); have hst := run_veilStore hA7 HLL.out; have hset := fun b o hne => (OneRow.of_row w7 gB (arr (lessL fs v (v + lg) wd))).cell b o hne; have hk1 := (hb7'.cell (p := ⟨gO, j, none⟩) (by simp; omega)).trans hd6; have hk2 := (hb7'.cell (p := ⟨wr.heap.size, 1, none⟩) (by simp; omega)).trans hx61; have hk3 := (hb7'.cell (p := ⟨wr.heap.size, 2, none⟩) (by simp; omega)).trans hx62))
            all_goals
              have HF := hd_ ((HY.out.go hb7').row (OneRow.of_row w7 gB (arr (lessL fs v (v + lg) wd))) (hA7.row _ HLL.out))
              clear hst hset hk1 hk2 hk3 hb7 hb7' hA7
              go_wp2_with fail
              go_roundw
              case rel => exact ⟨k + 1, lessL fs v (v + lg) wd, by omega, by go_num, HPT.out, by rw [HQ.out]; exact HF.out⟩
              case measure => simp [intOf] <;> omega
        · obtain rfl : k = r.length := by omega
          have HE := hd_ (show p.ships.length = (thP p).length by rw [<- hol, HALL.out])
          rw [HALL.out] at hS
          have HS := hd_ hS
          go_wp2_with fail
          go_ret
          refine ⟨L, cL, ret_sl HE.out, Sl.of_own HS.out.out, HS.out.below, (fr_own HS.out.out).mono (by omega)⟩
end Go.Proofs.YtifmdkcpbajdcabGreatDoor

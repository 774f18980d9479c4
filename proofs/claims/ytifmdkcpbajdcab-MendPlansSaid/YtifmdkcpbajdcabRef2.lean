/- Walks: of what is free time by time: less of it, the first time at which it is enough. -/
import Derived.Test.YtifmdkcpbajdcabRefW
namespace Go.Proofs.Ytifmdkcpbajdcab
open Go.RowKit Go.Proofs Plain

/-- Berths, time by time. -/
def Tab (fs : List Int) : Prop := fs.length = 300 ∧ ∀ t : Nat, t < 300 → 0 ≤ fs.getD t 0 ∧ fs.getD t 0 ≤ 16

theorem getD_ext {l m : List Int} (hl : l.length = m.length) (h : ∀ i, i < l.length → l.getD i 0 = m.getD i 0) : l = m := by
  refine List.ext_getElem hl fun i h1 h2 => ?_
  have := h i h1
  rw [List.getD_eq_getElem?_getD, List.getD_eq_getElem?_getD, List.getElem?_eq_getElem h1, List.getElem?_eq_getElem h2] at this
  exact this

theorem lessL_start (fs : List Int) (fr n : Int) (h : fs.length = 300) : lessL fs fr fr n = fs := by
  refine getD_ext (by rw [lessL_len, h]) fun i h1 => ?_
  have := lessL_get fs fr fr n i (by rw [lessL_len] at h1; exact h1)
  rwa [if_neg (by omega)] at this

theorem lessL_next (fs : List Int) (fr n : Int) (t : Nat) (ht : t < 300) (hf : fr ≤ t) : (lessL fs fr t n).set t (fs.getD t 0 - n) = lessL fs fr ((t + 1 : Nat) : Int) n := by
  refine getD_ext (by rw [List.length_set, lessL_len, lessL_len]) fun i h1 => ?_
  have hi : i < 300 := by rw [List.length_set, lessL_len] at h1; exact h1
  rw [lessL_get fs fr ((t + 1 : Nat) : Int) n i hi, getD_set' (lessL fs fr t n) t i (fs.getD t 0 - n) (by rw [lessL_len]; exact ht), lessL_get fs fr t n i hi]
  by_cases c : i = t
  · subst c; rw [if_pos rfl, if_pos (by omega)]
  · rw [if_neg c]
    by_cases d : fr ≤ (i : Int) ∧ (i : Int) < t
    · rw [if_pos d, if_pos (by omega)]
    · rw [if_neg d, if_neg (by omega)]

theorem lessOk_no {fs : List Int} {fr to n : Int} {t : Nat} (h0 : fr ≤ t) (h1 : (t : Int) < to) (h2 : to ≤ 300) (h : ¬ (0 ≤ fs.getD t 0 - n ∧ fs.getD t 0 - n ≤ 16)) : lessOk fs fr to n = false := by
  cases hc : lessOk fs fr to n with
  | false => rfl
  | true => exact absurd ((lessOk_iff fs fr to n h2).1 hc t h0 h1) h

def RetLess (fs : List Int) (fr to n : Int) (w : World) (e : Ending) (w' : World) : Prop :=
  e = .returned (.tuple #[.agg (arr (if lessOk fs fr to n = true then lessL fs fr to n else fs)), .bool (lessOk fs fr to n)]) ∧ Below w.heap.size w w'

theorem lessOk_yes {fs : List Int} {fr to n : Int} (h2 : to ≤ 300) (h : ∀ u : Nat, fr ≤ u → (u : Int) < to → 0 ≤ fs.getD u 0 - n ∧ fs.getD u 0 - n ≤ 16) : lessOk fs fr to n = true := (lessOk_iff fs fr to n h2).2 h

theorem less_yes {fs : List Int} {fr to n : Int} {w w' : World} (h : lessOk fs fr to n = true) (hb : Below w.heap.size w w') : RetLess fs fr to n w (.returned (.tuple #[.agg (arr (lessL fs fr to n)), .bool true])) w' := by
  unfold RetLess; rw [h, if_pos rfl]; exact ⟨rfl, hb⟩
theorem less_no {fs : List Int} {fr to n : Int} {w w' : World} (h : lessOk fs fr to n = false) (hb : Below w.heap.size w w') : RetLess fs fr to n w (.returned (.tuple #[.agg (arr fs), .bool false])) w' := by
  unfold RetLess; rw [h, if_neg (by simp)]; exact ⟨rfl, hb⟩

set_option maxRecDepth 100000 in
set_option maxHeartbeats 20000000 in
theorem less_any (fs : List Int) (fr to n : Int) (w : World) (hf : Tab fs) (h0 : 0 ≤ fr) (h1 : fr ≤ to) (h2 : to ≤ 300) (h3 : -16 ≤ n) (h4 : n ≤ 16) :
    Calls Try.prog 46 #[.agg (arr fs), .int .i64 fr, .int .i64 to, .int .i64 n] w (RetLess fs fr to n w) := by
  obtain ⟨hl, hr⟩ := hf
  have HR := Lib.hid hr
  have HL := Lib.hid (lessL_start fs fr n hl)
  clear hr
  go_enter Try.func46, Try.ntmps46
  go_wp2_with (first
    | (refine wpList_box_arr rfl rfl (by first | rfl | simp [Act.eval, Act.put]) hl ?_; intro wA gA a1 a2 hA hbA)
    | (have _ := hBlaid; refine wpList_alloc_arr rfl rfl ?_; intro wC gC c1 c2 hC hbC; have hA3 := hA2.below hbC (by have := hbB.size; omega); have hB3 := hB.below hbC b2; have hbS := hbA.trans ((hbB.mono hbA.size).trans (hbC.mono (by have := hbA.size; have := hbB.size; omega))))
    | (refine wpList_alloc_arr rfl rfl ?_; intro wB gB b1 b2 hB hbB; have hA2 := hA.below hbB a2; have hBlaid := True.intro)
    | (refine wpList_load_arr rfl rfl (by first | rfl | simp [Act.eval, Act.put]) hA2 ?_)
    | (refine wpList_store_arr rfl rfl (by first | rfl | simp [Act.eval, Act.put]) (by first | rfl | simp [Act.eval, Act.put]) hC hl ?_; intro w3 hC3 hr3))
  have hA4 := hr3.arr hA3 (by omega)
  have hB4 := hr3.arr hB3 (by omega)
  have hb4 := hbS.trans (hr3.below (n := w.heap.size) (by have := hbA.size; have := hbB.size; omega))
  have q1 : w.heap.size ≤ gC := by have := hbA.size; have := hbB.size; omega
  have q2 : w.heap.size ≤ gB := by have := hbA.size; omega
  have q3 : gA ≠ gC := by omega
  have q4 : gB ≠ gC := by omega
  have q5 : gA ≠ gB := by omega
  clear hA hA2 hA3 hB hB3 hC hbA hbB hbC hbS hr3 a1 a2 b1 b2 c1 c2 hBlaid
  go_loopw [9, 11] (fun bx i wr => ∃ t : Nat, i = .int .i64 t ∧ bx = .bool false ∧ fr ≤ t ∧ (t : Int) ≤ to ∧ (∀ u : Nat, fr ≤ u → u < t → 0 ≤ fs.getD u 0 - n ∧ fs.getD u 0 - n ≤ 16) ∧ Arr wr gA fs ∧ Arr wr gB zeros ∧ Arr wr gC (lessL fs fr t n) ∧ Below w.heap.size w wr) (fun _ i _ => (to - intOf i).toNat)
  case atStart => exact ⟨fr.toNat, by rw [show ((fr.toNat : Nat) : Int) = fr by omega], rfl, by omega, by omega, fun u hu hu2 => absurd hu2 (by omega), hA4, hB4, by rw [show ((fr.toNat : Nat) : Int) = fr by omega, HL.out]; exact hC3, hb4⟩
  case round =>
    clear hA4 hB4 hC3 hb4
    obtain ⟨t, rfl, rfl, t0, t1, hok, hA, hB, hC, hb⟩ := hrel
    by_cases hlt : (t : Int) < to
    · have ht : t < 300 := by omega
      have hc1 := hC.cell t ht
      rw [lessL_get fs fr t n t ht, if_neg (by omega)] at hc1
      have hfz := hC.frozen t
      have hx := HR.out t ht
      have HN := Lib.hid (lessL_next fs fr n t ht t0)
      have HNO := Lib.hid (@lessOk_no fs fr to n t t0 hlt h2)
      have HOK := Lib.hid (show 0 ≤ fs.getD t 0 - n ∧ fs.getD t 0 - n ≤ 16 → ∀ u : Nat, fr ≤ u → u < t + 1 → 0 ≤ fs.getD u 0 - n ∧ fs.getD u 0 - n ≤ 16 from fun h u hu hu2 => by
        by_cases e : u = t
        · subst e; exact h
        · exact hok u hu (by omega))
      clear hok
      generalize fs.getD t 0 = x at hc1 hx HN HNO HOK
      by_cases hin : 0 ≤ x - n ∧ x - n ≤ 16
      · have HB : (decide (0 ≤ x - n) && decide (x - n ≤ 16)) = true := by simpa using hin
        have HO := Lib.hid (HOK.out hin)
        clear HNO HOK hin
        go_wp2_with (go_at_call 35; refine (within_is _ HB).mono ?_; rintro e w5 ⟨rfl, rfl⟩)
        go_roundw
        case rel => exact ⟨t + 1, by go_num, rfl, by omega, by omega, HO.out, hA.beside _ _ (by simpa using q3.symm), hB.beside _ _ (by simpa using q4.symm), by have := hC.set t (x - n); rw [HN.out] at this; exact this, hb.setCell (by simpa using q1) _⟩
        case measure => simp [intOf] <;> omega
      · have HB : (decide (0 ≤ x - n) && decide (x - n ≤ 16)) = false := by simp; omega
        have HO := Lib.hid (HNO.out hin)
        clear HNO HOK hin
        have hA5 := hA.beside ⟨gC, t, none⟩ (.int .i64 (x - n)) (by simpa using q3.symm)
        have hB5 := hB.beside ⟨gC, t, none⟩ (.int .i64 (x - n)) (by simpa using q4.symm)
        have hb5 := hb.setCell (p := ⟨gC, t, none⟩) (by simpa using q1) (.int .i64 (x - n))
        go_wp2_with (first
          | (go_at_call 35; refine (within_is _ HB).mono ?_; rintro e w5 ⟨rfl, rfl⟩)
          | (refine wpList_load_arr rfl rfl (by first | rfl | simp [Act.eval, Act.put]) hA5 ?_)
          | (refine wpList_store_arr rfl rfl (by first | rfl | simp [Act.eval, Act.put]) (by first | rfl | simp [Act.eval, Act.put]) hB5 hl ?_; intro w3 hB6 hr3))
        refine bodyPost_ret (results_arr rfl _ _ gB _ rfl hB6) rfl ?_
        exact less_no HO.out (hb5.trans (hr3.below q2))
    · have HO := Lib.hid (lessOk_yes (n := n) h2 fun u hu hu2 => hok u hu (by omega))
      have HE := Lib.hid (show (t : Int) = to by omega)
      clear hok
      go_wp2_with (first
        | (refine wpList_load_arr rfl rfl (by first | rfl | simp [Act.eval, Act.put]) hC ?_)
        | (refine wpList_store_arr rfl rfl (by first | rfl | simp [Act.eval, Act.put]) (by first | rfl | simp [Act.eval, Act.put]) hB hC.len ?_; intro w3 hB6 hr3))
      refine bodyPost_ret (results_arr rfl _ _ gB _ rfl hB6) rfl ?_
      rw [HE.out]
      exact less_yes HO.out (hb.trans (hr3.below q2))
end Go.Proofs.Ytifmdkcpbajdcab

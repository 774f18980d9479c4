/- Walks: the first time at which it is enough. -/
import Derived.Test.YtifmdkcpbajdcabRef2
namespace Go.Proofs.Ytifmdkcpbajdcab
open Go.RowKit Go.Proofs Plain

/-- A table as a function of time. -/
def tabF (fs : List Int) (u : Int) : Int := fs.getD u.toNat 0

def RetFirst (fs : List Int) (fr long n : Int) (w : World) (e : Ending) (w' : World) : Prop :=
  ∃ v, First (tabF fs) fr long n v ∧ e = .returned (.int .i64 v) ∧ Below w.heap.size w w'

theorem fits_next {fs : List Int} {long n : Int} {t k : Nat} (ht : t ≤ k) (h : ∀ j : Nat, t ≤ j → j < k → n ≤ fs.getD j 0) (hx : n ≤ fs.getD k 0) : ∀ j : Nat, t ≤ j → j < k + 1 → n ≤ fs.getD j 0 := fun j h1 h2 => by
  by_cases e : j = k
  · rw [e]; exact hx
  · exact h j h1 (by omega)

theorem fits_not {fs : List Int} {long n : Int} {t k : Nat} (ht : t ≤ k) (hk : (k : Int) < t + long) (hx : ¬ n ≤ fs.getD k 0) : ¬ Fits (tabF fs) long n t := fun h => hx (by have := h.2 k (by omega) hk; simpa [tabF] using this)

theorem fits_is {fs : List Int} {long n : Int} {t k : Nat} (h300 : (t : Int) + long ≤ 300) (hk : (t : Int) + long ≤ k) (h : ∀ j : Nat, t ≤ j → j < k → n ≤ fs.getD j 0) : Fits (tabF fs) long n t :=
  ⟨h300, fun j h1 h2 => by have := h j.toNat (by omega) (by omega); exact this⟩

theorem nots_next {f : Int → Int} {fr long n : Int} {t : Nat} (h : ∀ u, fr ≤ u → u < t → ¬ Fits f long n u) (ht : ¬ Fits f long n t) : ∀ u, fr ≤ u → u < ((t + 1 : Nat) : Int) → ¬ Fits f long n u := fun u h1 h2 => by
  by_cases e : u = t
  · rw [e]; exact ht
  · exact h u h1 (by omega)

theorem first_none {f : Int → Int} {fr long n : Int} {t : Nat} (h : ∀ u, fr ≤ u → u < t → ¬ Fits f long n u) (ht : ¬ (t : Int) + long ≤ 300) : First f fr long n (-1) := .inl ⟨rfl, fun u h1 hf => by
  by_cases e : u < t
  · exact h u h1 e hf
  · have := hf.1; omega⟩

theorem first_some {f : Int → Int} {fr long n : Int} {t : Nat} (h : ∀ u, fr ≤ u → u < t → ¬ Fits f long n u) (h0 : fr ≤ t) (hf : Fits f long n t) : First f fr long n t := .inr ⟨h0, hf, fun u h1 h2 => h u h1 h2⟩

set_option maxRecDepth 100000 in
set_option maxHeartbeats 20000000 in
theorem first_any (fs : List Int) (fr long n : Int) (w : World) (hl : fs.length = 300) (h0 : 0 ≤ fr) (h1 : fr ≤ 300) (h2 : 1 ≤ long) (h3 : long ≤ 300) :
    Calls Try.prog 45 #[.agg (arr fs), .int .i64 fr, .int .i64 long, .int .i64 n] w (RetFirst fs fr long n w) := by
  go_enter Try.func45, Try.ntmps45
  go_wp2_with (refine wpList_box_arr rfl rfl (by first | rfl | simp [Act.eval, Act.put]) hl ?_; intro wA gA a1 a2 hA hbA)
  go_loopw [9] (fun i wr => ∃ t : Nat, i = .int .i64 t ∧ fr ≤ t ∧ t ≤ 301 ∧ (∀ u, fr ≤ u → u < t → ¬ Fits (tabF fs) long n u) ∧ Arr wr gA fs ∧ Below w.heap.size w wr) (fun i _ => 301 - (intOf i).toNat)
  case atStart => exact ⟨fr.toNat, by rw [show ((fr.toNat : Nat) : Int) = fr by omega], by omega, by omega, fun u hu hu2 => absurd hu2 (by omega), hA, hbA⟩
  case round =>
    clear hA hbA
    obtain ⟨t, rfl, t0, t1, hno, hA, hb⟩ := hrel
    have HNO := Lib.hid hno
    clear hno
    by_cases hlt : (t : Int) + long ≤ 300
    · go_wp2_with fail
      go_loopw [10, 11] (fun o i wi => ∃ (k : Nat) (ob : Bool), i = .int .i64 k ∧ o = .bool ob ∧ t ≤ k ∧ (k : Int) ≤ t + long ∧ (ob = true → ∀ j : Nat, t ≤ j → j < k → n ≤ fs.getD j 0) ∧ (ob = false → ¬ Fits (tabF fs) long n t) ∧ Arr wi gA fs ∧ Below w.heap.size w wi) (fun _ i _ => (t + long - intOf i).toNat)
      case atStart => exact ⟨t, true, rfl, rfl, Nat.le_refl _, by omega, fun _ j h1 h2 => absurd h2 (by omega), (fun h => by cases h), hA, hb⟩
      case round =>
        clear hA hb
        obtain ⟨k, ob, rfl, rfl, k0, k1, hyes, hnot, hA, hb⟩ := hrel
        have HY := Lib.hid hyes
        have HN := Lib.hid hnot
        clear hyes hnot
        cases ob with
        | true =>
          by_cases hk : (k : Int) < t + long
          · have c1 := hA.cell k (by omega)
            have HS := Lib.hid (fits_next (long := long) k0 (HY.out rfl))
            have HX := Lib.hid (fits_not (fs := fs) (n := n) k0 hk)
            clear HY HN
            generalize fs.getD k 0 = x at c1 HS HX
            go_wp2_with fail
            go_roundw
            case rel => exact ⟨k + 1, decide (n ≤ x), by go_num, rfl, by omega, by omega, fun h => HS.out (by simpa using h), fun h => HX.out (by simpa using h), hA, hb⟩
            case measure => simp [intOf] <;> omega
          · have HF := Lib.hid (fits_is (fs := fs) hlt (by omega) (HY.out rfl))
            clear HY HN
            go_wp2_with fail
            go_ret
            exact ⟨t, first_some HNO.out t0 HF.out, rfl, hb⟩
        | false =>
          have HF := Lib.hid (HN.out rfl)
          clear HY HN
          by_cases hk : (k : Int) < t + long
          all_goals
            go_wp2_with fail
            go_roundw
            case rel => exact ⟨t + 1, by go_num, by omega, by omega, nots_next HNO.out HF.out, hA, hb⟩
            case measure => simp [intOf] <;> omega
    · go_wp2_with fail
      go_ret
      exact ⟨-1, first_none HNO.out (by omega), rfl, hb⟩
end Go.Proofs.Ytifmdkcpbajdcab

/- Walks: the ship that an order means; a ship's cell that is written. -/
import Derived.Test.YtifmdkcpbajdcabTellT
namespace Go.Proofs.Ytifmdkcpbajdcab
open Go.RowKit Go.Proofs Plain

theorem cells_setK (l : List Ship) : ∀ (k j : Nat) (v : Value) (s : Ship), k < l.length → j < 6 → (shipV (l.getD k Ship.zero)).toList.set j v = (shipV s).toList → (shipCells l).set (k * 6 + j) v = shipCells (l.set k s) := by
  induction l with
  | nil => intro k j v s h; simp at h
  | cons q l ih =>
    intro k j v s h hj e
    have hl : (shipV q).toList.length = 6 := rfl
    cases k with
    | zero =>
      simp only [List.getD_cons_zero] at e
      simp only [shipCells, Nat.zero_mul, Nat.zero_add, List.set_cons_zero]
      rw [List.set_append_left _ _ (by omega), e]
    | succ k =>
      simp only [List.getD_cons_succ] at e
      simp only [shipCells, List.set_cons_succ]
      rw [List.set_append_right _ _ (by omega), hl, show (k + 1) * 6 + j - 6 = k * 6 + j by omega, ih k j v s (by simpa using h) hj e]

theorem ownK_set {w : World} {base b c k j : Nat} {v : Value} {l : List Ship} {s : Ship} (h : OwnK w base (.slice (some ⟨b, 0, none⟩) l.length c) l) (hk : k < l.length) (hj : j < 6) (e : (shipV (l.getD k Ship.zero)).toList.set j v = (shipV s).toList) :
    OwnK (w.setCell ⟨b, k * 6 + j, none⟩ v) base (.slice (some ⟨b, 0, none⟩) (l.set k s).length c) (l.set k s) := by
  have h1 := (World.ownsRow.stored h (k * 6 + j) v).1
  rw [cells_setK l k j v s hk hj e] at h1
  unfold OwnK
  rw [List.length_set]
  exact h1

theorem ownK_at {w : World} {base c : Nat} {A : Option Addr} {l : List Ship} (h : OwnK w base (.slice A l.length c) l) (hl : 0 < l.length) : ∃ b, A = some ⟨b, 0, none⟩ ∧ base ≤ b ∧ b < w.heap.size := by
  rcases h.2 with ⟨hv, hn⟩ | ⟨g, cap, cur, hv, h1, h2, _⟩
  · omega
  · injection hv with e1 _ e2
    exact ⟨g, e1, h1, (Array.getElem?_eq_some_iff.1 h2).1⟩

theorem contains_any (gs c : Nat) (xs : List Int) (x : Int) (w : World) (hm : xs.length ≤ 100) (hc : ∀ j, j < xs.length → w.cell? ⟨gs, j, none⟩ = some (.int .i64 (xs.getD j 0))) :
    Calls Try.prog 68 #[.slice (some ⟨gs, 0, none⟩) xs.length c, .int .i64 x] w fun e w' => e = .returned (.bool (decide (x ∈ xs))) ∧ w' = w := by
  have h := Try.slices_Contains_int gs 0 xs.length c xs x w (Nat.le_refl _) (by omega) (fun j hj => by rw [Nat.zero_add]; exact hc j hj)
  refine h.mono fun e w' ⟨he, hw⟩ => ⟨?_, hw⟩
  rw [he, List.take_length]
  exact ret_bool (by rw [Bool.eq_iff_iff]; simp)

/-- What ship hands back. -/
def RetShip (p : Port) (A : Option Addr) (n : Int) (xs : List Int) (w : World) (e : Ending) (w' : World) : Prop :=
  ∃ v, e = .returned (.tuple #[v, .int .i64 (shipE p n xs)]) ∧ w' = w ∧ (shipE p n xs = 0 → ∃ b off, A = some ⟨b, off, none⟩ ∧ v = .pointer (some ⟨b, off + n.toNat * 6, none⟩))

set_option maxRecDepth 100000 in
set_option maxHeartbeats 4000000 in
theorem ship_any (p : Port) (A : Option Addr) (c g gs cs : Nat) (n : Int) (xs : List Int) (w : World) (hP : PortAt w g p A c) (hin : InP w p A) (hl : p.ships.length ≤ 14) (hm : xs.length ≤ 100)
    (hc : ∀ j, j < xs.length → w.cell? ⟨gs, j, none⟩ = some (.int .i64 (xs.getD j 0))) :
    Calls Try.prog 59 #[.pointer (some ⟨g, 0, none⟩), .int .i64 n, .slice (some ⟨gs, 0, none⟩) xs.length cs] w (RetShip p A n xs w) := by
  have q1 := hP.ships
  have HE := Lib.hid (show shipE p n xs = if n < 0 ∨ (p.ships.length : Int) ≤ n then 3 else if (p.ship n.toNat).state ∈ xs then 0 else 4 from rfl)
  by_cases h1 : n < 0
  · have HR := Lib.hid (show shipE p n xs = 3 by rw [HE.out, if_pos (.inl h1)])
    clear HE hc
    go_enter Try.func59, Try.ntmps59
    go_wp2_with fail
    go_ret2
    exact ⟨.pointer none, by rw [HR.out]; rfl, rfl, fun h => by rw [HR.out] at h; cases h⟩
  · have d1 : decide (n < 0) = false := by simpa using h1
    by_cases h2 : (p.ships.length : Int) ≤ n
    · have HR := Lib.hid (show shipE p n xs = 3 by rw [HE.out, if_pos (.inr h2)])
      clear HE hc
      go_enter Try.func59, Try.ntmps59
      go_wp2_with fail
      go_ret2
      exact ⟨.pointer none, by rw [HR.out]; rfl, rfl, fun h => by rw [HR.out] at h; cases h⟩
    · have d2 : decide ((p.ships.length : Int) ≤ n) = false := by simpa using h2
      obtain ⟨k, rfl⟩ : ∃ k : Nat, n = k := ⟨n.toNat, by omega⟩
      have hk : k < p.ships.length := by omega
      obtain ⟨b, off, hA, hbl, hcells⟩ := ships_at hin (by omega)
      subst hA
      obtain ⟨e1, _⟩ := hcells k hk
      change w.cell? _ = some (.int .i64 (p.ship k).state) at e1
      rw [Int.toNat_natCast] at HE
      generalize hst : (p.ship k).state = st at e1 HE
      have HC := Lib.hid hc
      clear hcells hc hst
      by_cases h3 : st ∈ xs
      · have HR := Lib.hid (show shipE p k xs = 0 by rw [HE.out, if_neg (by omega), if_pos h3])
        have HB := Lib.hid (show decide (st ∈ xs) = true by simpa using h3)
        clear HE h3
        go_enter Try.func59, Try.ntmps59
        go_wp2_with (go_at_call 68; refine (contains_any gs cs xs st _ hm HC.out).mono ?_; rintro e w' ⟨rfl, rfl⟩; rw [HB.out])
        go_ret2
        exact ⟨_, by rw [HR.out]; rfl, rfl, fun _ => ⟨b, off, rfl, by simp⟩⟩
      · have HR := Lib.hid (show shipE p k xs = 4 by rw [HE.out, if_neg (by omega), if_neg h3])
        have HB := Lib.hid (show decide (st ∈ xs) = false by simpa using h3)
        clear HE h3
        go_enter Try.func59, Try.ntmps59
        go_wp2_with (go_at_call 68; refine (contains_any gs cs xs st _ hm HC.out).mono ?_; rintro e w' ⟨rfl, rfl⟩; rw [HB.out])
        go_ret2
        exact ⟨.pointer none, by rw [HR.out]; rfl, rfl, fun h => by rw [HR.out] at h; cases h⟩
end Go.Proofs.Ytifmdkcpbajdcab

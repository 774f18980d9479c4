/- Walks: a profile's copy, the place of a time in it. -/
import Derived.Test.YtifmdkcpbajdcabSpanW1
namespace Go.Proofs.Ytifmdkcpbajdcab
open Go.RowKit Plain

theorem step_info : (Try.prog.info? 90).map (fun i => (i.zero, i.size, i.bytes)) = some (some (.agg #[.int .i64 0, .int .i64 0]), 2, 16) := by kernel_rfl

set_option maxHeartbeats 400000 in
theorem cmpAt_any (x y t : Int) (w : World) (hx : 0 ≤ x ∧ x ≤ 300) (ht : 0 ≤ t ∧ t ≤ 300) :
    Calls Try.prog 81 #[.agg #[.int .i64 x, .int .i64 y], .int .i64 t] w fun e w' => e = .returned (.int .i64 (x - t)) ∧ Below w.heap.size w w' := by
  obtain ⟨h1, h2⟩ := hx
  obtain ⟨h3, h4⟩ := ht
  go_enter Try.func81, Try.ntmps81
  go_wp2_with fail
  go_ret
  exact ⟨rfl, (Below.refl _ _).alloc (Nat.le_refl _) _⟩

set_option maxHeartbeats 400000 in
theorem same_any (x y x' y' : Int) (w : World) :
    Calls Try.prog 84 #[.agg #[.int .i64 x, .int .i64 y], .agg #[.int .i64 x', .int .i64 y']] w fun e w' => e = .returned (.bool (y == y')) ∧ Below w.heap.size w w' := by
  go_enter Try.func84, Try.ntmps84
  go_wp2_with fail
  go_ret
  exact ⟨rfl, ((Below.refl _ _).alloc (Nat.le_refl _) _).alloc (by simp) _⟩

set_option maxHeartbeats 400000 in
theorem small_any (n : Int) (w : World) :
    Calls Try.prog 56 #[.int .i64 n] w fun e w' => e = .returned (.bool (decide (0 ≤ n) && decide (n ≤ 16))) ∧ w = w' := by
  by_cases h : 0 ≤ n
  all_goals
    go_enter Try.func56, Try.ntmps56
    go_wp2_with fail
    go_ret
    exact ⟨ret_bool (by rw [Bool.eq_iff_iff]; simp; omega), rfl⟩

def RetSteps (l : Prof) (w : World) (e : Ending) (w' : World) : Prop := ∃ A c, e = .returned (.slice A l.length c) ∧ Sl w' 2 A l.length (stepCells l) ∧ Below w.heap.size w w'

set_option maxHeartbeats 400000 in
theorem new_any (w : World) : Calls Try.prog 50 #[] w (RetSteps newL w) := by
  go_enter Try.func50, Try.ntmps50
  go_wp2_with fail
  go_ret
  exact ⟨some ⟨w.heap.size, 0, none⟩, 1, rfl, Sl.new w _ _ rfl, (Below.refl _ _).alloc (Nat.le_refl _) _⟩

/-- A slice that lies nowhere ahead of a block. -/
def Fr (n : Nat) (A : Option Addr) : Prop := ∀ x, A = some x → n ≤ x.block
theorem Fr.mono {n m : Nat} {A : Option Addr} (h : Fr n A) (hm : m ≤ n) : Fr m A := fun x hx => Nat.le_trans hm (h x hx)
theorem Fr.none (n : Nat) : Fr n none := fun _ h => by cases h
theorem Fr.some {n b off : Nat} {s} (h : n ≤ b) : Fr n (some ⟨b, off, s⟩) := fun _ hx => by injection hx with hx; subst hx; exact h

theorem new_fr (w : World) : Calls Try.prog 50 #[] w fun e w' => ∃ A c, e = .returned (.slice A newL.length c) ∧ Sl w' 2 A newL.length (stepCells newL) ∧ Below w.heap.size w w' ∧ Fr w.heap.size A := by
  go_enter Try.func50, Try.ntmps50
  go_wp2_with fail
  go_ret
  exact ⟨some ⟨w.heap.size, 0, none⟩, 1, rfl, Sl.new w _ _ rfl, (Below.refl _ _).alloc (Nat.le_refl _) _, Fr.some (Nat.le_refl _)⟩

/-- A row of one's own from a block on that holds a profile. -/
abbrev Owns (w : World) (base : Nat) (A : Option Addr) (c : Nat) (l : Prof) : Prop := w.ownsRow base 90 2 (.slice A l.length c) l.length (stepCells l)

def RetOwn (base : Nat) (l : Prof) (w : World) (e : Ending) (w' : World) : Prop := ∃ A c, e = .returned (.slice A l.length c) ∧ Owns w' base A c l ∧ Below base w w'

theorem one_cells (l : Prof) : ∀ u ∈ stepCells l, u.oneCell' = true := by
  induction l with
  | nil => intro u h; simp [stepCells] at h
  | cons s r ih =>
    intro u h
    simp only [stepCells, List.mem_cons] at h
    rcases h with rfl | rfl | h
    · rfl
    · rfl
    · exact ih u h

set_option maxHeartbeats 400000 in
theorem clone_any (l : Prof) (b off c : Nat) (w : World) (h : Sl w 2 (some ⟨b, off, none⟩) l.length (stepCells l)) (hm : l.length * 16 ≤ 140737488355328) :
    Calls Try.prog 66 #[.slice (some ⟨b, off, none⟩) l.length c] w (RetOwn w.heap.size l w) := by
  obtain ⟨i0, hi0, hz0, hz1, hz2⟩ := info_parts step_info
  have hnil := fun w' : World => Lib.run_eql_slice_nil (P := Try.prog) w' (t := 53)
  go_enter Try.func66, Try.ntmps66
  go_wp2_with (at_builtin; refine wpList_append_own _ rfl (.tmp 5) (.tmp 6) 53 rfl w.heap.size 90 i0 _ 2 16 Try.underlying53 hi0 hz0 hz1 hz2 rfl (by omega) (.slice (some ⟨w.heap.size, 0, none⟩) 0 0) 0 [] rfl (own_empty w _ _ _ (Nat.le_refl _)) ⟨b, off, none⟩ l.length c (stepCells l) rfl ?c1 ?c2 (one_cells l) ?c3 ?c4 ?c5 ?_)
  case c1 => exact stepCells_len l
  case c2 => exact (h.alloc _).news
  case c3 => unfold maxLen; omega
  case c4 => omega
  case c5 => simp
  intro v' w1 hown hgrow _
  obtain ⟨A, c', rfl⟩ := own_form hown
  go_wp2_with fail
  go_ret
  refine ⟨A, c', rfl, hown, ((Below.refl _ _).alloc (Nat.le_refl _) _).grown hgrow (by simp) ?_⟩
  intro k hk; simp [Value.ownBlock] at hk; omega
end Go.Proofs.Ytifmdkcpbajdcab

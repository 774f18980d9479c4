/- Plain laws and cells: a number of a line, as the document reads it. -/
import Derived.Test.YtifmdkcpbajdcabDoorParse
import Derived.Test.YtifmdkcpbajdcabDoorLineRefPlain
import Derived.Lib.SlTrimSet
set_option linter.unusedVariables false
set_option linter.unusedSimpArgs false
namespace Go.Proofs.YtifmdkcpbajdcabDoor
open Go.RowKit Go.Proofs Plain

def digits : Txt := [48, 49, 50, 51, 52, 53, 54, 55, 56, 57]
theorem digits_dig (c : UInt8) : digits.contains c = isDig c := by
  have : ∀ n : Nat, n < 256 → digits.contains (UInt8.ofNat n) = isDig (UInt8.ofNat n) := by decide +kernel
  have h := this c.toNat (UInt8.toNat_lt c)
  rwa [UInt8.ofNat_toNat] at h

theorem dropWhile_nil {p : UInt8 → Bool} : ∀ (l : Txt), l.dropWhile p = [] ↔ l.all p = true
  | [] => by simp
  | c :: r => by
    rw [List.dropWhile_cons, List.all_cons]
    cases h : p c with
    | true => simp [dropWhile_nil r]
    | false => simp

theorem trim_digits (l : Txt) : Lib.trimS l digits = [] ↔ l.all isDig = true := by
  have hp : (fun c => digits.contains c) = isDig := funext digits_dig
  unfold Lib.trimS Lib.trimLeftS Lib.trimRightS
  rw [hp, dropWhile_nil, List.all_reverse]
  constructor
  · intro h
    have h2 : (l.reverse.dropWhile isDig) = [] := by
      cases hd : l.reverse.dropWhile isDig with
      | nil => rfl
      | cons c r =>
        exfalso
        have h3 : isDig c = false := by
          have := List.head_dropWhile_not isDig (l := l.reverse) (by rw [hd]; simp)
          simpa [hd] using this
        rw [hd, List.all_cons, h3] at h
        cases h
    rw [dropWhile_nil, List.all_reverse] at h2
    exact h2
  · intro h
    have h2 : l.reverse.dropWhile isDig = [] := by rw [dropWhile_nil, List.all_reverse]; exact h
    rw [h2]; rfl

theorem bare_trim (x : Txt) : Lib.trimPrefix x [45] = bare x := by
  unfold Lib.trimPrefix bare
  cases x with
  | nil => simp [Lib.hasPrefix]
  | cons c r =>
    by_cases h : c = 45
    · subst h; simp [Lib.hasPrefix]
    · have h2 : ¬ (45 : UInt8) = c := fun e => h e.symm
      simp [Lib.hasPrefix, h, h2]

theorem numVal_snoc (l : Txt) (c : UInt8) : numVal 0 (l ++ [c]) = numVal 0 l * 10 + (c.toNat - 48) := by
  unfold numVal; rw [List.foldl_append]; rfl

theorem numVal_lt : ∀ (n : Nat) (l : Txt), l.length = n → l.all isDig = true → numVal 0 l < 10 ^ n := by
  intro n
  induction n with
  | zero => intro l hl _; obtain rfl := List.eq_nil_of_length_eq_zero hl; decide
  | succ n ih =>
    intro l hl ha
    obtain ⟨m, c, rfl⟩ : ∃ m c, l = m ++ [c] := by
      refine ⟨l.dropLast, l.getLast (fun e => by rw [e] at hl; cases hl), (List.dropLast_concat_getLast _).symm⟩
    rw [List.all_append] at ha
    simp only [Bool.and_eq_true, List.all_cons, List.all_nil, Bool.and_true, isDig, decide_eq_true_eq] at ha
    have h1 := ih m (by simpa using hl) ha.1
    rw [numVal_snoc, Nat.pow_succ]
    omega

/-- The number at hand, not yet done. -/
theorem ar3_zero (ns : List Int) (h : ns.length < 3) : ar3 (ns ++ [0]) = ar3 ns := by
  match ns, h with
  | [], _ => rfl
  | [_], _ => rfl
  | [_, _], _ => rfl
theorem ar3_over (ns : List Int) (v u : Int) (h : ns.length < 3) : (ar3 (ns ++ [v])).setIfInBounds ns.length (.int .i64 u) = ar3 (ns ++ [u]) := by
  match ns, h with
  | [], _ => rfl
  | [_], _ => rfl
  | [_, _], _ => rfl
theorem Ar3.over {w : World} {g k : Nat} {ns : List Int} {v : Int} (h : Ar3 w g (ns ++ [v])) (hn : ns.length = k) (hk : k < 3) (u : Int) : Ar3 (w.setCell ⟨g, k, none⟩ (.int .i64 u)) g (ns ++ [u]) := by
  subst hn
  unfold Ar3
  rw [setCell_eq_setRow w g ns.length _ _ _ _ h, ar3_over ns v u hk]
  exact setRow_heap w g _ _ _ _ h
theorem Ar3.at_ {w : World} {g k : Nat} {ns : List Int} {v : Int} (h : Ar3 w g (ns ++ [v])) (hn : ns.length = k) (hk : k < 3) : w.cell? ⟨g, k, none⟩ = some (.int .i64 v) := by
  subst hn
  rw [cell_of_row w g ns.length _ _ _ h]
  match ns, hk with
  | [], _ => rfl
  | [_], _ => rfl
  | [_, _], _ => rfl

theorem refNums_snoc : ∀ (l : List Txt) (ns : List Int) (t : Txt) (v : Int), refNums l = some ns → refNum t = some v → refNums (l ++ [t]) = some (ns ++ [v])
  | [], ns, t, v, h, hv => by
    simp only [refNums, Option.some.injEq] at h; subst h
    simp [refNums, hv]
  | x :: r, ns, t, v, h, hv => by
    rw [refNums] at h
    split at h
    · rename_i a l h1 h2
      injection h with h; subst h
      rw [List.cons_append, refNums, h1, refNums_snoc r l t v h2 hv]; rfl
    · cases h
theorem refNums_none : ∀ (l : List Txt) (k : Nat), k < l.length → refNum (l.getD k []) = none → refNums l = none
  | [], k, h, _ => absurd h (by simp)
  | x :: r, 0, _, hn => by rw [List.getD_cons_zero] at hn; rw [refNums, hn]
  | x :: r, k + 1, h, hn => by
    rw [List.getD_cons_succ] at hn
    rw [refNums, refNums_none r k (by simpa using h) hn]
    cases refNum x <;> rfl
end Go.Proofs.YtifmdkcpbajdcabDoor

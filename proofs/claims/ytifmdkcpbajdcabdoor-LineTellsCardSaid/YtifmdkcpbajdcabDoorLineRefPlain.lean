/- Plain laws: the document's own reading of numbers and orders is the same. -/
import Derived.Test.YtifmdkcpbajdcabDoorPlain
set_option linter.unusedVariables false
set_option linter.unusedSimpArgs false
namespace Go.Proofs.YtifmdkcpbajdcabDoor.Plain

/-- The number's text without its sign. -/
def bare (x : Txt) : Txt := if x.head? = some 45 then x.drop 1 else x

def signed (x : Txt) : Int := if bare x ≠ x then -(numVal 0 (bare x) : Int) else numVal 0 (bare x)

def refNum (x : Txt) : Option Int :=
  if bare x = [] ∨ 10 < (bare x).length ∨ (bare x).all isDig = false then none
  else if Lib.itoa (signed x) = x then some (signed x) else none

theorem dec_dig_head {u : Nat} : (Lib.decDigits u).head? ≠ some 45 := by
  intro h
  have : (45 : UInt8) ∈ Lib.decDigits u := List.mem_of_mem_head? (by rw [h]; rfl)
  exact absurd (dec_dig _ _ this) (by decide)

theorem bare_neg (u : Nat) : bare (45 :: Lib.decDigits u) = Lib.decDigits u := by simp [bare]
theorem bare_pos (u : Nat) : bare (Lib.decDigits u) = Lib.decDigits u := by
  unfold bare; rw [if_neg dec_dig_head]

theorem all_dig (u : Nat) : (Lib.decDigits u).all isDig = true := List.all_eq_true.2 (dec_dig u)

theorem refNum_itoa {v : Int} (h0 : -10000000000 < v) (h1 : v < 10000000000) : refNum (Lib.itoa v) = some v := by
  have key : ∀ u : Nat, u < 10000000000 → ¬ (Lib.decDigits u = [] ∨ 10 < (Lib.decDigits u).length ∨ (Lib.decDigits u).all isDig = false) := by
    intro u hu h
    rcases h with h | h | h
    · exact dec_ne u h
    · have := dec_len u 10 (by omega) (by omega); omega
    · rw [all_dig] at h; cases h
  by_cases hn : v < 0
  · have e : Lib.itoa v = 45 :: Lib.decDigits v.natAbs := by unfold Lib.itoa; rw [if_pos hn]
    have hb : bare (Lib.itoa v) = Lib.decDigits v.natAbs := by rw [e, bare_neg]
    have hs : signed (Lib.itoa v) = v := by
      unfold signed
      rw [hb, if_pos (by rw [e]; intro h; have := congrArg List.length h; simp at this), dec_val]; omega
    unfold refNum
    rw [hb, if_neg (key _ (by omega)), hs, if_pos rfl]
  · have e : Lib.itoa v = Lib.decDigits v.toNat := by unfold Lib.itoa; rw [if_neg hn]
    have hb : bare (Lib.itoa v) = Lib.decDigits v.toNat := by rw [e, bare_pos]
    have hs : signed (Lib.itoa v) = v := by
      unfold signed
      rw [hb, if_neg (by rw [e]; simp), dec_val]; omega
    unfold refNum
    rw [hb, if_neg (key _ (by omega)), hs, if_pos rfl]

theorem refNum_back {x : Txt} {v : Int} (h : refNum x = some v) : Lib.itoa v = x := by
  unfold refNum at h
  split at h
  · cases h
  · split at h
    · rename_i h2; injection h with h; rw [← h]; exact h2
    · cases h

theorem refNum_iff {x : Txt} {v : Int} (hv : inLim v = true) : refNum x = some v ↔ numOf x = some v := by
  rw [numOf_iff]
  have hv' := hv
  simp only [inLim, Bool.and_eq_true, decide_eq_true_eq] at hv'
  constructor
  · intro h; exact ⟨refNum_back h, hv⟩
  · rintro ⟨h, _⟩; rw [← h]; exact refNum_itoa (by omega) (by omega)

def refNums : List Txt → Option (List Int)
  | [] => some []
  | x :: r => match refNum x, refNums r with
    | some v, some l => some (v :: l)
    | _, _ => none

theorem refNums_some : ∀ (l : List Txt) (ns : List Int), refNums l = some ns → (∀ n ∈ ns, inLim n = true) → numsOf l = some ns
  | [], ns, h, _ => by simp only [refNums, Option.some.injEq] at h; subst h; rfl
  | x :: r, ns, h, hl => by
    rw [refNums] at h
    split at h
    · rename_i v l h1 h2
      injection h with h; subst h
      have := refNums_some r l h2 fun n hn => hl n (by simp [hn])
      rw [numsOf, (refNum_iff (hl v (by simp))).1 h1, this]
    · cases h

theorem refNums_of : ∀ (l : List Txt) (ns : List Int), numsOf l = some ns → refNums l = some ns
  | [], ns, h => by simp only [numsOf, Option.some.injEq] at h; subst h; rfl
  | x :: r, ns, h => by
    rw [numsOf] at h
    split at h
    · rename_i v l h1 h2
      injection h with h; subst h
      rw [refNums, (refNum_iff ((numOf_iff _ _).1 h1).2).2 h1, refNums_of r l h2]
    · cases h

theorem refNums_len : ∀ (l : List Txt) (ns : List Int), refNums l = some ns → ns.length = l.length
  | [], ns, h => by simp only [refNums, Option.some.injEq] at h; subst h; rfl
  | x :: r, ns, h => by
    rw [refNums] at h
    split at h
    · rename_i v l h1 h2
      injection h with h; subst h
      rw [List.length_cons, List.length_cons, refNums_len r l h2]
    · cases h

def refT (k : Nat) (args : List Txt) : Option Order :=
  match refNums args with
  | none => none
  | some ns => if goodO (orderOf k ns) = true then some (orderOf k ns) else none

theorem inLim_zero : inLim 0 = true := by decide

/-- The document's reading of the numbers behind a word. -/
theorem refT_eq {k : Nat} {args : List Txt} (h1 : 1 ≤ k) (h2 : k ≤ 14) (h3 : args.length = countsL.getD k 0) : refT k args = (numsOf args).map (orderOf k) := by
  have hc := counts_le k (by omega)
  unfold refT
  cases hr : refNums args with
  | none =>
    cases hn : numsOf args with
    | none => rfl
    | some ns => rw [refNums_of _ _ hn] at hr; cases hr
  | some ns =>
    have hl := refNums_len _ _ hr
    by_cases hg : goodO (orderOf k ns) = true
    · simp only [hg, if_true]
      obtain ⟨_, _, ha, hb, hcc, _⟩ := (goodO_iff _).1 hg
      have : ∀ n ∈ ns, inLim n = true := by
        intro n hn
        obtain ⟨i, hi, rfl⟩ := List.mem_iff_getElem.1 hn
        have hi3 : i < 3 := by omega
        have hget : ns[i] = ns.getD i 0 := by rw [List.getD_eq_getElem?_getD, List.getElem?_eq_getElem hi]; rfl
        rw [hget]
        rcases (by omega : i = 0 ∨ i = 1 ∨ i = 2) with rfl | rfl | rfl
        · exact ha
        · exact hb
        · exact hcc
      rw [refNums_some _ _ hr this]; rfl
    · simp only [hg]
      cases hn : numsOf args with
      | none => rfl
      | some ms =>
        exfalso
        rw [refNums_of _ _ hn] at hr
        injection hr with hr; subst hr
        apply hg
        obtain ⟨_, g2⟩ := numsOf_lim _ _ hn
        have hz : ∀ i, inLim (ms.getD i 0) = true := fun i => by
          rw [List.getD_eq_getElem?_getD]
          by_cases hi : i < ms.length
          · rw [List.getElem?_eq_getElem hi]; exact g2 _ (List.getElem_mem hi)
          · rw [List.getElem?_eq_none (by omega)]; decide
        have h0 : ∀ i, ms.length ≤ i → ms.getD i 0 = 0 := fun i hi => by
          rw [List.getD_eq_getElem?_getD, List.getElem?_eq_none hi]; rfl
        have k3' : countsL.getD ((k : Int)).toNat 0 = ms.length := by rw [Int.toNat_natCast, hl, h3]
        refine (goodO_iff _).2 ⟨by show (1 : Int) ≤ (k : Int); omega, by show (k : Int) ≤ 14; omega, hz 0, hz 1, hz 2, ?_, ?_, ?_⟩
        · show 0 < countsL.getD ((k : Int)).toNat 0 ∨ ms.getD 0 0 = 0
          by_cases c : 0 < ms.length
          · exact .inl (by omega)
          · exact .inr (h0 0 (by omega))
        · show 1 < countsL.getD ((k : Int)).toNat 0 ∨ ms.getD 1 0 = 0
          by_cases c : 1 < ms.length
          · exact .inl (by omega)
          · exact .inr (h0 1 (by omega))
        · show 2 < countsL.getD ((k : Int)).toNat 0 ∨ ms.getD 2 0 = 0
          by_cases c : 2 < ms.length
          · exact .inl (by omega)
          · exact .inr (h0 2 (by omega))

/-- The decimal text, as the document makes it. -/
theorem dec_small {u : Nat} (h : u < 10) : Lib.decDigits u = [UInt8.ofNat (48 + u)] := by rw [Lib.decDigits, dif_pos h]
theorem dec_big {u : Nat} (h : ¬ u < 10) : Lib.decDigits u = Lib.decDigits (u / 10) ++ Lib.decDigits (u % 10) := by
  rw [Lib.decDigits, dif_neg h, dec_small (show u % 10 < 10 by omega)]
theorem itoa_neg' {n : Int} (h : n < 0) : Lib.itoa n = 45 :: Lib.itoa (-n) := by
  unfold Lib.itoa
  rw [if_pos h, if_neg (by omega)]
  congr 2; omega
theorem itoa_pos' {n : Int} (h : ¬ n < 0) (h9 : 9 < n) : Lib.itoa n = Lib.itoa (n / 10) ++ Lib.itoa (n % 10) := by
  unfold Lib.itoa
  rw [if_neg h, if_neg (by omega), if_neg (by omega), dec_big (show ¬ n.toNat < 10 by omega)]
  congr 2 <;> omega
theorem itoa_dig {n : Int} (h : ¬ n < 0) (h9 : ¬ 9 < n) : Lib.itoa n = [UInt8.ofNat (48 + n.toNat)] := by
  unfold Lib.itoa
  rw [if_neg h, dec_small (by omega)]
end Go.Proofs.YtifmdkcpbajdcabDoor.Plain

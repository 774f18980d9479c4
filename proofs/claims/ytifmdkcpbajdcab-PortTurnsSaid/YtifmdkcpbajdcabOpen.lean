/- Arguments opened: a slice of structs of integers. -/
import Derived.Test.YtifmdkcpbajdcabSpanA
import Derived.Test.YtifmdkcpbajdcabRows
import Derived.ProofKit
import Derived.OpenShut
import Derived.Deep.Slices
import Derived.SizedLaws
set_option linter.unusedVariables false
set_option linter.unusedSimpArgs false
namespace Go.Proofs.Ytifmdkcpbajdcab
open Go.RowKit Go.ChangeShapes Go.WideShapes Go.ChangeAt Plain

section
variable {H : Type} {enc : TypeId × Value → H} {P : Program} {w : World} {base : Nat} {spare : Nat → Bool} {held : Bool}

/-- All fields are integers, one behind the other. -/
def intFields (P : Program) (fs : Array Field) : Bool := (List.range fs.size).all fun j => match fs[j]? with
  | some f => f.offset == j && (match P.underlying f.type with | some (.int .i64) => true | _ => false) && P.cellsOf f.type == 1
  | none => false

theorem intFields_at {fs : Array Field} (h : intFields P fs = true) (j : Nat) (f : Field) (hf : fs[j]? = some f) : f.offset = j ∧ P.underlying f.type = some (.int .i64) ∧ P.cellsOf f.type = 1 := by
  simp only [intFields, List.all_eq_true, List.mem_range] at h
  have := h j (Array.getElem?_eq_some_iff.1 hf).1
  rw [hf] at this
  simp only [Bool.and_eq_true, beq_iff_eq] at this
  obtain ⟨⟨h1, h2⟩, h3⟩ := this
  refine ⟨h1, ?_, h3⟩
  split at h2
  · assumption
  · cases h2

theorem trod_ints {t : TypeId} {fs : Array Field} {fuel : Nat} {cs : List Value} {x : DataW H × List MemPlace} (ht : P.underlying t = some (.struct fs)) (hi : intFields P fs = true) (hC : P.cellsOf t = fs.size)
    (h : DataW.trod enc P w base spare held fuel t cs = some x) :
    cs.length = fs.size ∧ ∃ f : Nat → Int, ∀ j, j < fs.size → cs[j]? = some (.int .i64 (f j)) ∧ (Lit.int .i64 (f j)).wf = true := by
  obtain ⟨xs, n, _, _, hl, hlen, hf⟩ := DataW.trod_struct ht h
  have each : ∀ j, j < fs.size → ∃ v : Int, cs[j]? = some (.int .i64 v) ∧ (Lit.int .i64 v).wf = true := fun j hj => by
    obtain ⟨h1, h2, h3⟩ := intFields_at hi j fs[j] (Array.getElem?_eq_getElem hj)
    have hx := hf j fs[j] (Array.getElem?_eq_getElem hj)
    rw [h1, h3, List.getElem?_eq_getElem (by rw [hlen]; exact hj)] at hx
    obtain ⟨v, e, _, wf⟩ := DataW.trod_int h2 hx
    refine ⟨v, ?_, wf⟩
    have : ((cs.drop j).take 1)[0]? = some (Value.int .i64 v) := by rw [e]; rfl
    rw [List.getElem?_take] at this
    simpa using this
  refine ⟨by rw [hl, hC], fun j => if hj : j < fs.size then (each j hj).choose else 0, fun j hj => ?_⟩
  simp only [hj, dif_pos]
  exact (each j hj).choose_spec

/-- A slice of structs of k integers, opened. -/
theorem open_int_structs {t e : TypeId} {fs : Array Field} {r : Reach} {b0 k : Nat} {v : Value} {d : DataW H} {p : List MemPlace} (ht : P.underlying t = some (.slice e)) (he : P.underlying e = some (.struct fs))
    (hi : intFields P fs = true) (hC : P.cellsOf e = fs.size) (hk : fs.size = k) (hk0 : 0 < k)
    (hv : Value.okWide P w r b0 t v) (h : DataW.Trod enc P w base (fun _ => true) held t v d p) :
    ∃ (A : Option Addr) (n c : Nat) (f : Nat → Nat → Int), v = .slice A n c ∧ n ≤ maxLen ∧ (∀ i j, i < n → j < k → (Lit.int .i64 (f i j)).wf = true) ∧
      (0 < n → ∃ b off, A = some ⟨b, off, none⟩ ∧ ∀ i j, i < n → j < k → w.cell? ⟨b, off + (i * k + j), none⟩ = some (.int .i64 (f i j))) ∧
      ∃ elems spares, (d = .nil ∧ n = 0) ∨ (d = .slice elems spares ∧ elems.length = n) := by
  obtain ⟨a0, len, cap, rfl⟩ := okWide_slice ht hv
  obtain ⟨fuel, hf⟩ := h
  rcases Deep.open_slice ht hf with ⟨hcs, hx⟩ | ⟨a, len', cap', m, n, D, Pl, hcs, _, hl, hm, hmm, hx, hel⟩
  · simp only [Value.cells, List.cons.injEq, and_true] at hcs
    injection hcs with e1 e2 e3
    subst e2
    simp only [Prod.mk.injEq] at hx
    exact ⟨a0, 0, cap, fun _ _ => 0, rfl, Nat.zero_le _, fun i j hi => absurd hi (by omega), fun h => absurd h (by omega), [], [], .inl ⟨hx.1, rfl⟩⟩
  · simp only [Value.cells, List.cons.injEq, and_true] at hcs
    injection hcs with e1 e2 e3
    subst e1; subst e2; subst e3
    simp only [if_true] at hmm
    subst hmm
    simp only [Prod.mk.injEq] at hx
    have each : ∀ i, i < len → ∃ g : Nat → Int, ∀ j, j < k → w.cell? (a.add (i * k + j)) = some (.int .i64 (g j)) ∧ (Lit.int .i64 (g j)).wf = true := fun i hi' => by
      obtain ⟨cs', hc, ht'⟩ := hel i (by omega)
      rw [hC, hk] at hc
      obtain ⟨hl', g, hg⟩ := trod_ints he hi hC ht'
      obtain ⟨_, _, hat⟩ := World.cells?_some hc
      refine ⟨g, fun j hj => ?_⟩
      obtain ⟨g1, g2⟩ := hg j (by omega)
      have := hat j hj
      rw [g1] at this
      have ea : (a.add (i * k)).add j = a.add (i * k + j) := by
        unfold Addr.add
        by_cases h1 : i * k = 0 <;> by_cases h2 : j = 0 <;> simp [h1, h2, Nat.add_assoc]
      rw [ea] at this
      exact ⟨this, g2⟩
    refine ⟨some a, len, _, fun i => if hi' : i < len then (each i hi').choose else fun _ => 0, rfl, by omega, fun i j hi' hj => ?_, fun hn => ?_, _, _, .inr ⟨hx.1, by simp⟩⟩
    · simp only [hi', dif_pos]; exact ((each i hi').choose_spec j hj).2
    · have h0 := ((each 0 hn).choose_spec 0 hk0).1
      have hspot : a.spot = none := by
        have e0 : a.add (0 * k + 0) = a := by unfold Addr.add; simp
        rw [e0] at h0
        unfold World.cell? at h0
        split at h0
        · split at h0
          · cases h0
          · cases hs : a.spot with
            | none => rfl
            | some s => rename_i hh; simp [hs] at hh
        · cases h0
      refine ⟨a.block, a.off, ?_, fun i j hi' hj => ?_⟩
      · obtain ⟨b, o, s⟩ := a; simp only at hspot; subst hspot; rfl
      · simp only [hi', dif_pos]
        have := ((each i hi').choose_spec j hj).1
        have ea : a.add (i * k + j) = ⟨a.block, a.off + (i * k + j), none⟩ := by
          obtain ⟨b, o, s⟩ := a; simp only at hspot; subst hspot
          unfold Addr.add; split <;> simp_all
        rw [ea] at this; exact this
end

set_option maxRecDepth 100000 in
theorem step_fields : ∃ fs, Try.prog.underlying 90 = some (.struct fs) ∧ intFields Try.prog fs = true ∧ Try.prog.cellsOf 90 = fs.size ∧ fs.size = 2 :=
  ⟨_, Try.underlying90, by kernel_rfl, by kernel_rfl, rfl⟩

set_option maxRecDepth 100000 in
/-- An argument that is a list of steps. -/
theorem open_steps {H : Type} {enc : TypeId × Value → H} {w : World} {base : Nat} {held : Bool} {r : Reach} {b0 : Nat} {v : Value} {d : DataW H} {p : List MemPlace}
    (hv : Value.okWide Try.prog w r b0 53 v) (h : DataW.Trod enc Try.prog w base (fun _ => true) held 53 v d p) :
    ∃ (A : Option Addr) (c : Nat) (l : Prof), v = .slice A l.length c ∧ l.length ≤ maxLen ∧ Sl w 2 A l.length (stepCells l) ∧ ∃ elems spares, (d = .nil ∧ l.length = 0) ∨ (d = .slice elems spares ∧ elems.length = l.length) := by
  obtain ⟨fs, s1, s2, s3, s4⟩ := step_fields
  obtain ⟨A, n, c, f, rfl, hm, _, hc, hd⟩ := open_int_structs (k := 2) Try.underlying53 s1 s2 s3 s4 (by omega) hv h
  have hlen : ((List.range n).map fun i => ((f i 0, f i 1) : Stp)).length = n := by simp
  have hget : ∀ i, i < n → ((List.range n).map fun i => ((f i 0, f i 1) : Stp)).getD i (0, 0) = (f i 0, f i 1) := fun i hi => by
    rw [List.getD_eq_getElem?_getD, List.getElem?_map, List.getElem?_range hi]; rfl
  refine ⟨A, c, (List.range n).map fun i => (f i 0, f i 1), by rw [hlen], by rw [hlen]; exact hm, ⟨stepCells_len _, fun hn => ?_⟩, by rw [hlen]; exact hd⟩
  rw [hlen] at hn
  obtain ⟨b, off, e, hcell⟩ := hc (by omega)
  refine ⟨b, off, e, fun j hj => ?_⟩
  rw [hlen] at hj
  obtain ⟨g1, g2⟩ := stepCells_get ((List.range n).map fun i => ((f i 0, f i 1) : Stp)) (j / 2) (by rw [hlen]; omega)
  rw [hget (j / 2) (by omega)] at g1 g2
  rcases Nat.mod_two_eq_zero_or_one j with h0 | h1
  · have e2 : j = 2 * (j / 2) := by omega
    rw [e2, g1, show 2 * (j / 2) = j / 2 * 2 + 0 by omega]; exact hcell _ 0 (by omega) (by omega)
  · have e2 : j = 2 * (j / 2) + 1 := by omega
    rw [e2, g2, show 2 * (j / 2) + 1 = j / 2 * 2 + 1 by omega]
    exact hcell _ 1 (by omega) (by omega)
end Go.Proofs.Ytifmdkcpbajdcab

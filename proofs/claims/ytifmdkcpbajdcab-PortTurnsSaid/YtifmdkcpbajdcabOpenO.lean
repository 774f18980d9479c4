/- Arguments opened: orders. -/
import Derived.Test.YtifmdkcpbajdcabOpenP
import Derived.Test.YtifmdkcpbajdcabTellQ
set_option linter.unusedVariables false
set_option linter.unusedSimpArgs false
namespace Go.Proofs.Ytifmdkcpbajdcab
open Go.RowKit Go.ChangeShapes Go.WideShapes Go.ChangeAt Plain

set_option maxRecDepth 100000 in
theorem order_fields : ∃ fs, Try.prog.underlying 45 = some (.struct fs) ∧ intFields Try.prog fs = true ∧ Try.prog.cellsOf 45 = fs.size ∧ fs.size = 4 :=
  ⟨_, Try.underlying45, by kernel_rfl, by kernel_rfl, rfl⟩

set_option maxRecDepth 100000 in
/-- An argument that is an order. -/
theorem open_order {H : Type} {enc : TypeId × Value → H} {w : World} {base : Nat} {held : Bool} {r : Reach} {b0 : Nat} {v : Value} {d : DataW H} {pl : List MemPlace}
    (hv : Value.okWide Try.prog w r b0 45 v) (h : DataW.Trod enc Try.prog w base (fun _ => true) held 45 v d pl) :
    ∃ o : Order, v = .agg (orderA o) ∧ (i64 o.kind ∧ i64 o.a ∧ i64 o.b ∧ i64 o.c) := by
  obtain ⟨fs, s1, s2, s3, s4⟩ := order_fields
  obtain ⟨cs, rfl, _⟩ := okWide_struct s1 hv
  obtain ⟨fuel, hf⟩ := h
  obtain ⟨hl, f, hg⟩ := trod_ints s1 s2 s3 hf
  rw [s4] at hl hg
  obtain ⟨a0, b0'⟩ := hg 0 (by omega)
  obtain ⟨a1, b1⟩ := hg 1 (by omega)
  obtain ⟨a2, b2⟩ := hg 2 (by omega)
  obtain ⟨a3, b3⟩ := hg 3 (by omega)
  simp only [Value.cells] at hl a0 a1 a2 a3
  refine ⟨⟨f 0, f 1, f 2, f 3⟩, ?_, wf_range b0', wf_range b1, wf_range b2, wf_range b3⟩
  congr 1
  apply Array.ext'
  match hcs : cs.toList, hl with
  | [c0, c1, c2, c3], _ =>
    rw [hcs] at a0 a1 a2 a3
    simp only [List.getElem?_cons_zero, List.getElem?_cons_succ, Option.some.injEq] at a0 a1 a2 a3
    simp [orderA, a0, a1, a2, a3]
end Go.Proofs.Ytifmdkcpbajdcab

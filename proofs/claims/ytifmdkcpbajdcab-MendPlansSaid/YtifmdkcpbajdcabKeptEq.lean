/- Laws: two kept rooms held against each other. -/
import Derived.Test.YtifmdkcpbajdcabPortMem
import Derived.Laws.StructEq
namespace Go.Proofs.Ytifmdkcpbajdcab
open Go.RowKit Go.Proofs Plain

set_option maxRecDepth 100000 in
theorem run_kept_neq (a b c x y z : Int) (w : World) : (binOp .neq 24 (.agg #[.int .i64 a, .int .i64 b, .int .i64 c]) (.agg #[.int .i64 x, .int .i64 y, .int .i64 z])).run Try.prog w = .ok (.bool (!(decide (a = x) && decide (b = y) && decide (c = z)))) w := by
  by_cases h1 : a = x
  · by_cases h2 : b = y
    · by_cases h3 : c = z
      · subst h1; subst h2; subst h3
        simp [go_sem]
      · subst h1; subst h2
        simp [go_sem, h3]
    · subst h1
      simp [go_sem, h2]
  · simp [go_sem, h1]

set_option maxRecDepth 100000 in
theorem run_kept_eql (a b c x y z : Int) (w : World) : (binOp .eql 24 (.agg #[.int .i64 a, .int .i64 b, .int .i64 c]) (.agg #[.int .i64 x, .int .i64 y, .int .i64 z])).run Try.prog w = .ok (.bool (decide (a = x) && decide (b = y) && decide (c = z))) w := by
  by_cases h1 : a = x
  · by_cases h2 : b = y
    · by_cases h3 : c = z
      · subst h1; subst h2; subst h3
        simp [go_sem]
      · subst h1; subst h2
        simp [go_sem, h3]
    · subst h1
      simp [go_sem, h2]
  · simp [go_sem, h1]

theorem kept_guard : Try.prog.eqGuardType Try.prog.depth 24 = false := by kernel_rfl

section
variable {ops : Array Oper} {rest : List Oper} {o : Oper} {a : Act} {w : World} {Q : Exit → Act → World → Prop} {x y : Operand} {k1 k2 k3 m1 m2 m3 : Int} {r : Bool}

theorem wpList_kept_neq (hg : o.guard = none) (ho : o.op = .binOp .neq 24 x y 24) (hx : a.eval x = .agg #[.int .i64 k1, .int .i64 k2, .int .i64 k3]) (hy : a.eval y = .agg #[.int .i64 m1, .int .i64 m2, .int .i64 m3])
    (hr : (!(decide (k1 = m1) && decide (k2 = m2) && decide (k3 = m3))) = r) (h : wpList Try.prog ops Q rest (a.put o.dst (.bool r)) w) : wpList Try.prog ops Q (o :: rest) a w := by
  subst hr
  refine wpList_plain hg fun K hK => ?_
  unfold Oper.wp execOp
  simp only [ho, hx, hy, Sem.run_bind, run_eqGuard_agg w .neq 24 x y _ _ kept_guard, Result.andThen_ok, run_kept_neq, Sem.run_pure]
  exact hK _ _ h

theorem oper_kept_eql {K : Act → World → Prop} (ho : o.op = .binOp .eql 24 x y 24) (hx : a.eval x = .agg #[.int .i64 k1, .int .i64 k2, .int .i64 k3]) (hy : a.eval y = .agg #[.int .i64 m1, .int .i64 m2, .int .i64 m3])
    (hr : (decide (k1 = m1) && decide (k2 = m2) && decide (k3 = m3)) = r) (h : K (a.put o.dst (.bool r)) w) : o.wp Try.prog a w K Q := by
  subst hr
  unfold Oper.wp execOp
  simp only [ho, hx, hy, Sem.run_bind, run_eqGuard_agg w .eql 24 x y _ _ kept_guard, Result.andThen_ok, run_kept_eql, Sem.run_pure]
  exact h
end
end Go.Proofs.Ytifmdkcpbajdcab

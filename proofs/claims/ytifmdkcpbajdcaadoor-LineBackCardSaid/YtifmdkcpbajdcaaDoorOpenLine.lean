/- Arguments opened: an order; a row that lists variables and asks of the world's shape: the builder. -/
import Derived.Test.YtifmdkcpbajdcaaDoorLineMem
import Derived.Test.YtifmdkcpbajdcaaDoorLaidLine
import Derived.Test.YtifmdkcpbajdcaaDoorParse
import Derived.ProofKit
import Derived.OpenShut
import Derived.HandedShaped
import Derived.Handed
namespace Go.Proofs.YtifmdkcpbajdcaaDoor
open Go.RowKit Go.ChangeShapes Go.WideShapes Go.ChangeAt Plain

section
variable {H : Type} {enc : TypeId × Value → H} {P : Program} {w : World} {base : Nat} {spare : Nat → Bool} {held : Bool}

/-- All fields are integers, one behind the other. -/
def lineFields (P : Program) (fs : Array Field) : Bool := (List.range fs.size).all fun j => match fs[j]? with
  | some f => f.offset == j && (match P.underlying f.type with | some (.int .i64) => true | _ => false) && P.cellsOf f.type == 1
  | none => false

theorem lineFields_at {fs : Array Field} (h : lineFields P fs = true) (j : Nat) (f : Field) (hf : fs[j]? = some f) : f.offset = j ∧ P.underlying f.type = some (.int .i64) ∧ P.cellsOf f.type = 1 := by
  simp only [lineFields, List.all_eq_true, List.mem_range] at h
  have := h j (Array.getElem?_eq_some_iff.1 hf).1
  rw [hf] at this
  simp only [Bool.and_eq_true, beq_iff_eq] at this
  obtain ⟨⟨h1, h2⟩, h3⟩ := this
  refine ⟨h1, ?_, h3⟩
  split at h2
  · assumption
  · cases h2

theorem trod_line {t : TypeId} {fs : Array Field} {fuel : Nat} {cs : List Value} {x : DataW H × List MemPlace} (ht : P.underlying t = some (.struct fs)) (hi : lineFields P fs = true) (hC : P.cellsOf t = fs.size)
    (h : DataW.trod enc P w base spare held fuel t cs = some x) :
    cs.length = fs.size ∧ ∃ f : Nat → Int, ∀ j, j < fs.size → cs[j]? = some (.int .i64 (f j)) ∧ (Lit.int .i64 (f j)).wf = true := by
  obtain ⟨xs, n, _, _, hl, hlen, hf⟩ := DataW.trod_struct ht h
  have each : ∀ j, j < fs.size → ∃ v : Int, cs[j]? = some (.int .i64 v) ∧ (Lit.int .i64 v).wf = true := fun j hj => by
    obtain ⟨h1, h2, h3⟩ := lineFields_at hi j fs[j] (Array.getElem?_eq_getElem hj)
    have hx := hf j fs[j] (Array.getElem?_eq_getElem hj)
    rw [h1, h3, List.getElem?_eq_getElem (by rw [hlen]; exact hj)] at hx
    obtain ⟨v, e, _, wf⟩ := DataW.trod_int h2 hx
    refine ⟨v, ?_, wf⟩
    have : ((cs.drop j).take 1)[0]? = some (Value.int .i64 v) := by rw [e]; rfl
    rw [List.getElem?_take] at this
    simpa using this
  refine ⟨by rw [hl, hC], fun j => if hj : j < fs.size then (each j hj).choose else 0, fun j hj => ?_⟩
  simp only [hj, dif_pos]
  exact (each j hj).choose_spec
end

theorem wf_line {n : Int} (h : (Lit.int .i64 n).wf = true) : -9223372036854775808 ≤ n ∧ n ≤ 9223372036854775807 := by
  simp [Lit.wf, IntKind.min, IntKind.max, IntKind.signed, IntKind.bits] at h
  omega

set_option maxRecDepth 100000 in
theorem ord_fields : ∃ fs, Tryd.prog.underlying 23 = some (.struct fs) ∧ lineFields Tryd.prog fs = true ∧ Tryd.prog.cellsOf 23 = fs.size ∧ fs.size = 4 :=
  ⟨_, Tryd.underlying23, by kernel_rfl, by kernel_rfl, rfl⟩

set_option maxRecDepth 100000 in
/-- An argument that is an order. -/
theorem open_ord {H : Type} {enc : TypeId × Value → H} {w : World} {base : Nat} {held : Bool} {r : Reach} {b0 : Nat} {v : Value} {d : DataW H} {pl : List MemPlace}
    (hv : Value.okWide Tryd.prog w r b0 23 v) (h : DataW.Trod enc Tryd.prog w base (fun _ => true) held 23 v d pl) :
    ∃ o : Order, v = .agg (ordA o) ∧ ((-9223372036854775808 ≤ o.kind ∧ o.kind ≤ 9223372036854775807) ∧ (-9223372036854775808 ≤ o.a ∧ o.a ≤ 9223372036854775807) ∧ (-9223372036854775808 ≤ o.b ∧ o.b ≤ 9223372036854775807) ∧ (-9223372036854775808 ≤ o.c ∧ o.c ≤ 9223372036854775807)) := by
  obtain ⟨fs, s1, s2, s3, s4⟩ := ord_fields
  obtain ⟨cs, rfl, _⟩ := okWide_struct s1 hv
  obtain ⟨fuel, hf⟩ := h
  obtain ⟨hl, f, hg⟩ := trod_line s1 s2 s3 hf
  rw [s4] at hl hg
  obtain ⟨a0, b0'⟩ := hg 0 (by omega)
  obtain ⟨a1, b1⟩ := hg 1 (by omega)
  obtain ⟨a2, b2⟩ := hg 2 (by omega)
  obtain ⟨a3, b3⟩ := hg 3 (by omega)
  simp only [Value.cells] at hl a0 a1 a2 a3
  refine ⟨⟨f 0, f 1, f 2, f 3⟩, ?_, wf_line b0', wf_line b1, wf_line b2, wf_line b3⟩
  congr 1
  apply Array.ext'
  match hcs : cs.toList, hl with
  | [c0, c1, c2, c3], _ =>
    rw [hcs] at a0 a1 a2 a3
    simp only [List.getElem?_cons_zero, List.getElem?_cons_succ, Option.some.injEq] at a0 a1 a2 a3
    simp [ordA, a0, a1, a2, a3]

/-- The wrap that hands on both: what is laid, and the world's shape. -/
theorem handed_both {H : Type} {enc : TypeId × Value → H} {a : Assume} {C : Checked} {os : Os} {f : FuncId} {fn : Func} {s : ChangeSpec} {conds : List PathCond} {apart fresh handsOn again : Bool} {X : World → Array Value → Prop}
    (hX : ∀ (w w' : World) (args : Array Value), w.heap = w'.heap → X w args → X w' args)
    (own : ownKnob C.prog.godebug = none) (started : os.Started) (noInit : C.prog.inits.idxOf? f = none) (hfn : C.prog.funcs[f]? = some fn)
    (witness : ∃ (w : World) (tape : Tape) (i : Input), w.os = os ∧ (w.forCall tape i).Shaped C.prog ∧ i.vars = [] ∧ Input.okWide C.prog (w.forCall tape i) .any w.heap.size f i ∧
      ((s.pre enc C.prog fn conds apart (w.forCall tape i).memory i.args ∧ X (w.forCall tape i).memory i.args) ∧ sizedMet enc C.prog fn (OpenSpec.ofChange s) apart (w.forCall tape i).memory i.args) ∧ a.holds C.prog (lone (Frame.enter C.prog f i.args .normal) [] (w.forCall tape i)))
    (contract : ∀ (W : World) (base : Nat) (args : Array Value) (ds gs : List (DataW H)) (before : List MemPlace),
      (∀ (j : Nat) t v, fn.params[j]? = some t → args[j]? = some v → Value.okWide C.prog W .any base t v) →
      DataW.Whole enc C.prog fn.params.toList s.vars apart W args.toList ds gs before →
      (DataW.weightsEach C.prog (fn.params.toList ++ s.plain.varTypes C.prog) (ds ++ gs)).all (· ≤ reachBytes) = true → W.ShapedOpen C.prog → X W args →
      Calls C.prog f args W fun e W' => ∃ v, e = .returned v ∧ s.post enc C.prog fn apart fresh handsOn again W args v W') :
    ReturnsInHanded a C os f .any (fun w args => (s.pre enc C.prog fn conds apart w args ∧ X w args) ∧ sizedMet enc C.prog fn (OpenSpec.ofChange s) apart w args) (s.post enc C.prog fn apart fresh handsOn again) := by
  refine returnsInHanded_of_calls own started noInit witness ?_
  intro w tape i _ hsh _ hok hpre hholds
  obtain ⟨_, _, _, fn', hfn', _, _, _, _, hval⟩ := hok
  have e : fn' = fn := Option.some.inj (hfn'.symm.trans hfn)
  subst e
  obtain ⟨⟨⟨ds, gs, before, hw, hc⟩, hx⟩, hz⟩ := hpre
  have hw' := DataW.Whole.of_heap (w' := w.forCall tape i) (by rfl) hw
  refine (contract (w.forCall tape i) w.heap.size i.args ds gs before hval hw' (hz.weights hw) hsh (hX _ _ _ (by rfl) hx)).mono fun e W' ⟨v, he, hp⟩ => ?_
  subst he
  exact ChangeSpec.post_blind hp
end Go.Proofs.YtifmdkcpbajdcaaDoor

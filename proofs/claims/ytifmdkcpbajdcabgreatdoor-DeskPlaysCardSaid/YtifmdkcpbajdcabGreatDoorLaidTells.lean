/- From what a row lists to what reading a line leans on. -/
import Derived.Test.YtifmdkcpbajdcabGreatDoorLineLm
import Derived.Test.YtifmdkcpbajdcabGreatDoorRefLin
import Derived.Test.YtifmdkcpbajdcabGreatDoorRows
import Derived.Stop.LaidErr
import Derived.Lib.LaidTab
import Derived.SliceStrings
import Derived.Shelf.Vars
import Derived.HandedShaped
import Derived.MakeChecks
import Derived.ProofKit
import Derived.OpenShut
import Derived.Handed
import Derived.Test.YtifmdkcpbajdcabGreatDoorParse
set_option linter.unusedVariables false
set_option linter.unusedSimpArgs false
namespace Go.Proofs.YtifmdkcpbajdcabGreatDoor
open Go.RowKit Go.Proofs Plain Go.ChangeShapes
def listed : List (String × DataW Unit) := [("math/bits.deBruijn32tab", Rows.laid_math_bits_deBruijn32tab), ("math/bits.deBruijn64tab", Rows.laid_math_bits_deBruijn64tab), ("internal/strconv.uint64pow10", Rows.laid_internal_strconv_uint64pow10), ("unicode/utf8.acceptRanges", Rows.laid_unicode_utf8_acceptRanges), ("strconv.ErrRange", Rows.laid_strconv_ErrRange), ("strconv.ErrSyntax", Rows.laid_strconv_ErrSyntax), ("unicode.White_Space", Rows.laid_unicode_White_Space), ("strings.asciiSpace", Rows.laid_strings_asciiSpace), ("berthing/line.words", Rows.laid_berthing_line_words), ("berthing/line.counts", Rows.laid_berthing_line_counts), ("unicode/utf8.first", Rows.laid_unicode_utf8_first)]
theorem err_star : "*" ++ "errors.errorString" = "*errors.errorString" := by decide
theorem err_row (u : TypeId) (h : Tryz.prog.typeName? 3 u = some "*errors.errorString") : u = 190 :=
  typeName_ptr_named (nm := "errors.errorString") (by rw [err_star]; kernel_rfl) (by kernel_rfl) (by decide) u (by rw [err_star]; exact h)
theorem pow_data : (Rows.laid_internal_strconv_uint64pow10 : DataW Unit) = Lib.tabData .u64 Lib.pow10Tab := rfl
theorem counts_data : (Rows.laid_berthing_line_counts : DataW Unit) = Lib.tabData .i64 (countsL.map fun n : Nat => (n : Int)) := rfl
theorem glob_pow : Tryz.prog.globalNamed "internal/strconv.uint64pow10" = some 6 := by kernel_rfl
theorem glob_counts : Tryz.prog.globalNamed "berthing/line.counts" = some 1 := by kernel_rfl
theorem glob_words : Tryz.prog.globalNamed "berthing/line.words" = some 0 := by kernel_rfl
theorem glob_rang : Tryz.prog.globalNamed "strconv.ErrRange" = some 3 := by kernel_rfl
theorem glob_synt : Tryz.prog.globalNamed "strconv.ErrSyntax" = some 2 := by kernel_rfl
theorem strs_words : (Rows.laid_berthing_line_words : DataW Unit) = .slice (strs wordsB) [] := rfl
set_option maxRecDepth 100000 in
theorem words_of_laid {W : World} {r : List (String × DataW Unit)} (h : laidMet Tryz.prog (("berthing/line.words", Rows.laid_berthing_line_words) :: r) W) :
    ∃ b off c, W.cell? ⟨0, 0, none⟩ = some (.slice (some ⟨b, off, none⟩) 15 c) /\ 15 <= c /\ b < W.heap.size /\ ∀ j, j < 15 -> W.cell? ⟨b, off + j, none⟩ = some (.string (bs (wordsL.getD j []))) := by
  obtain ⟨ps, ⟨g, t, cs, fuel, p, q, hg, ht, hv, hd, _, e0⟩, _, hrows⟩ := h
  obtain rfl := Option.some.inj (glob_words.symm.trans hg)
  obtain rfl : 22 = t := Option.some.inj ((show (Tryz.prog.globals[0]?).map (·.type) = some 22 by kernel_rfl).symm.trans ht)
  rcases open_strings Tryz.underlying22 Tryz.underlying9 (by kernel_rfl) hd with ⟨_, hx⟩ | ⟨a, len, cap, ss, hcs, _, hle, hm, hsl, hx, hcell, _⟩
  · injection hx with h1 h2; cases h1
  · rw [if_pos rfl] at hsl
    injection hx with h1 h2
    rw [strs_words] at h1
    injection h1 with h1 h3
    have hlen : (ss.take len).length = 15 := by
      have := congrArg List.length h1
      rw [strs, strs, List.length_map, List.length_map] at this
      rw [<- this]; simp [wordsB, wordsL]
    have hl15 : len = 15 /\ 15 <= ss.length := by
      rw [List.length_take] at hlen
      have h4 := congrArg List.length h3
      rw [strs, List.length_map, List.length_drop] at h4
      simp at h4
      omega
    have hb : ss.take len = wordsB := by
      refine List.ext_getElem (by rw [hlen]; simp [wordsB, wordsL]) fun i h4 h5 => ?_
      have h6 := congrArg (fun l => l[i]?) h1
      simp only [strs, List.getElem?_map, List.getElem?_eq_getElem h4, List.getElem?_eq_getElem h5, Option.map_some, Option.some.injEq] at h6
      injection h6 with h6
      injection h6 with h6
      exact bytes_inj h6.symm
    have hc0 : W.cell? ⟨0, 0, none⟩ = some (.slice (some a) len cap) := by
      have := World.var?_cell glob_words hv 0
      rw [this, <- Array.getElem?_toList, hcs]; rfl
    have hsome : ∀ i, i < ss.length -> W.cell? (a.add i) = some (.string (ss.getD i ByteArray.empty)) := hcell
    have ha0 := hsome 0 (by omega)
    obtain ⟨b, off, el⟩ := a
    cases el with
    | some x =>
      have := World.cell?_spot ha0
      simp [Addr.add] at this
    | none =>
      have hadd : ∀ i, (⟨b, off, none⟩ : Addr).add i = ⟨b, off + i, none⟩ := fun i => by unfold Addr.add; split <;> simp_all
      rw [hl15.1] at hc0
      refine ⟨b, off, cap, hc0, by omega, ?_, fun j hj => ?_⟩
      · rw [hadd] at ha0; exact World.block_lt_of_cell? W _ ha0
      · have := hsome j (by omega)
        rw [hadd] at this
        rw [this]
        have h7 : ss.getD j ByteArray.empty = wordsB.getD j ByteArray.empty := by
          rw [<- hb, List.getD_eq_getElem?_getD, List.getD_eq_getElem?_getD, List.getElem?_take, if_pos (by omega)]
        rw [h7, List.getD_eq_getElem?_getD, List.getD_eq_getElem?_getD, wordsB, List.getElem?_map, List.getElem?_eq_getElem (by simp [wordsL]; omega)]
        rfl
theorem line_of_laid {W : World} (h0 : laidMetH Tryz.prog listed W) (hsh : W.ShapedOpen Tryz.prog) : LineAt W.heap.size W := by
  rw [MakeChecks.laidMetH_plain _ _ _ (by kernel_rfl)] at h0
  have h := h0
  unfold listed at h
  have hpow : Lib.TabIs Tryz.prog W "internal/strconv.uint64pow10" .u64 Lib.pow10Tab := by
    have := h.tail.tail
    rw [pow_data] at this
    exact Lib.tabIs_of_head glob_pow (t := 194) (e := 165) (n := 20) (by kernel_rfl) (by kernel_rfl) (by kernel_rfl) (by kernel_rfl) (by kernel_rfl) this
  have hcnt : Lib.TabIs Tryz.prog W "berthing/line.counts" .i64 (countsL.map fun n : Nat => (n : Int)) := by
    have := h.tail.tail.tail.tail.tail.tail.tail.tail.tail
    rw [counts_data] at this
    exact Lib.tabIs_of_head glob_counts (t := 79) (e := 3) (n := 15) (by kernel_rfl) (by kernel_rfl) (by kernel_rfl) (by kernel_rfl) (by kernel_rfl) this
  obtain ⟨a0, s0, hv0, -, -, -⟩ := laid_sentinel (ti := 82) (tp := 190) (te := 192) (ts := 9) h.tail.tail.tail.tail glob_rang (by kernel_rfl) Tryz.underlying82 err_row Tryz.underlying190 Tryz.underlying192 rfl rfl Tryz.underlying9 (by kernel_rfl) (by kernel_rfl)
  obtain ⟨a1, s1, hv1, -, -, -⟩ := laid_sentinel (ti := 82) (tp := 190) (te := 192) (ts := 9) h.tail.tail.tail.tail.tail glob_synt (by kernel_rfl) Tryz.underlying82 err_row Tryz.underlying190 Tryz.underlying192 rfl rfl Tryz.underlying9 (by kernel_rfl) (by kernel_rfl)
  obtain ⟨m, hm⟩ := cell_of_shapedOpen_int (g := 5) (t := 3) (k := .i64) (zero := #[.int .i64 0]) hsh (of_decide_eq_true (by kernel_rfl)) (by kernel_rfl) rfl (by kernel_rfl) (by kernel_rfl) (by kernel_rfl)
  have hc : ∀ j, j < 15 -> W.cell? ⟨1, j, none⟩ = some (.int .i64 (countsL.getD j 0 : Nat)) := fun j hj => by
    have := hcnt.cell glob_counts j (by simpa [countsL] using hj)
    rw [this]
    congr 2
    rw [List.getD_eq_getElem?_getD, List.getD_eq_getElem?_getD, List.getElem?_map, List.getElem?_eq_getElem (by simpa [countsL] using hj)]
    rfl
  have hw := words_of_laid h.tail.tail.tail.tail.tail.tail.tail.tail
  have hs : W.cell? ⟨2, 0, none⟩ = some (.iface 190 (.pointer (some a1))) := by have := World.var?_cell glob_synt hv1 0; simpa using this
  have hr : W.cell? ⟨3, 0, none⟩ = some (.iface 190 (.pointer (some a0))) := by have := World.var?_cell glob_rang hv0 0; simpa using this
  obtain ⟨bw, ow, cw, hw1, hwr⟩ := id hw
  exact ⟨Nat.le_refl _, ⟨cell_lt hw1, cell_lt (hc 0 (by omega)), cell_lt hs, cell_lt hr, cell_lt hm⟩, hw, hc, ⟨_, _, hs⟩, ⟨_, _, hr⟩, Lib.tabBelow_of_tabIs hpow, ⟨m, hm⟩⟩
set_option maxRecDepth 100000 in
theorem space_data : (Rows.laid_strings_asciiSpace : DataW Unit) = Lib.tabData .u8 Lib.asciiSpaceTab := rfl
theorem glob_space : Tryz.prog.globalNamed "strings.asciiSpace" = some 4 := by kernel_rfl
theorem space_of_laid {W : World} (h0 : laidMetH Tryz.prog listed W) : SpaceTab W.heap.size W := by
  rw [MakeChecks.laidMetH_plain _ _ _ (by kernel_rfl)] at h0
  have h := h0
  unfold listed at h
  have := h.tail.tail.tail.tail.tail.tail.tail
  rw [space_data] at this
  exact Lib.tabBelow_of_tabIs (Lib.tabIs_of_head glob_space (t := 178) (e := 5) (n := 256) (by kernel_rfl) (by kernel_rfl) (by kernel_rfl) (by kernel_rfl) (by kernel_rfl) this)
end Go.Proofs.YtifmdkcpbajdcabGreatDoor
namespace Go.Proofs.YtifmdkcpbajdcabGreatDoor
open Go.RowKit Go.ChangeShapes Go.WideShapes Go.ChangeAt Plain
theorem spot_none {w : World} {a : Addr} {v : Value} (h : w.cell? a = some v) : a.spot = none := by
  unfold World.cell? at h
  split at h
  · split at h
    · cases h
    · cases hs : a.spot with
      | none => rfl
      | some s => rename_i hh; simp [hs] at hh
  · cases h
set_option maxRecDepth 100000 in
theorem open_texts {H : Type} {enc : TypeId × Value -> H} {w : World} {base : Nat} {held : Bool} {r : Reach} {b0 : Nat} {v : Value} {d : DataW H} {p : List MemPlace}
    (hv : Value.okWide Tryz.prog w r b0 22 v) (h : DataW.Trod enc Tryz.prog w base (fun _ => true) held 22 v d p) :
    ∃ (A : Option Addr) (c : Nat) (l : List ByteArray), v = .slice A l.length c /\ l.length <= c /\ c <= maxLen /\ StrAt w A l /\ ∀ s ∈ l, s.size <= maxLen := by
  obtain ⟨a0, len, cap, rfl⟩ := okWide_slice Tryz.underlying22 hv
  obtain ⟨fuel, hf⟩ := h
  rcases open_strings Tryz.underlying22 Tryz.underlying9 (by kernel_rfl) hf with ⟨hcs, _⟩ | ⟨a, len', cap', ss, hcs, _, hle, hm, hsl, _, hcell, hsz⟩
  · simp only [Value.cells, List.cons.injEq, and_true] at hcs
    injection hcs with e1 e2 e3
    subst e1; subst e2; subst e3
    exact ⟨none, 0, [], rfl, Nat.le_refl _, Nat.zero_le _, ⟨rfl, fun h => absurd h (by simp)⟩, fun s hs => by cases hs⟩
  · simp only [Value.cells, List.cons.injEq, and_true] at hcs
    injection hcs with e1 e2 e3
    subst e1; subst e2; subst e3
    rw [if_pos rfl] at hsl
    have hlen : (ss.take len).length = len := by rw [List.length_take]; omega
    refine ⟨some a, cap, ss.take len, by rw [hlen], by rw [hlen]; exact hle, hm, ⟨by simp [strV], fun hn => ?_⟩, fun s hs => hsz s (List.mem_of_mem_take hs)⟩
    rw [hlen] at hn
    have h0 := hcell 0 (by omega)
    have e0 : a.add 0 = a := by unfold Addr.add; simp
    rw [e0] at h0
    have hsp := spot_none h0
    obtain ⟨b, off, el⟩ := a
    dsimp only at hsp
    subst hsp
    refine ⟨b, off, rfl, fun j hj => ?_⟩
    rw [hlen] at hj
    have hadd : (⟨b, off, none⟩ : Addr).add j = ⟨b, off + j, none⟩ := by unfold Addr.add; split <;> simp_all
    have h1 := hcell j (by omega)
    rw [hadd] at h1
    rw [h1, strV, List.getElem?_map, List.getElem?_take, if_pos (by omega), List.getElem?_eq_getElem (by omega), List.getD_eq_getElem?_getD, List.getElem?_eq_getElem (by omega)]
    rfl
section
variable {H : Type} {enc : TypeId × Value -> H} {P : Program} {w : World} {base : Nat} {spare : Nat -> Bool} {held : Bool}
end
theorem handed_both {H : Type} {enc : TypeId × Value -> H} {a : Assume} {C : Checked} {os : Os} {f : FuncId} {fn : Func} {s : ChangeSpec} {conds : List PathCond} {apart fresh handsOn again : Bool} {X : World -> Array Value -> Prop}
    (hX : ∀ (w w' : World) (args : Array Value), w.heap = w'.heap -> X w args -> X w' args)
    (own : ownKnob C.prog.godebug = none) (started : os.Started) (noInit : C.prog.inits.idxOf? f = none) (hfn : C.prog.funcs[f]? = some fn)
    (witness : ∃ (w : World) (tape : Tape) (i : Input), w.os = os /\ (w.forCall tape i).Shaped C.prog /\ i.vars = [] /\ Input.okWide C.prog (w.forCall tape i) .any w.heap.size f i /\
      ((s.pre enc C.prog fn conds apart (w.forCall tape i).memory i.args /\ X (w.forCall tape i).memory i.args) /\ sizedMet enc C.prog fn (OpenSpec.ofChange s) apart (w.forCall tape i).memory i.args) /\ a.holds C.prog (lone (Frame.enter C.prog f i.args .normal) [] (w.forCall tape i)))
    (contract : ∀ (W : World) (base : Nat) (args : Array Value) (ds gs : List (DataW H)) (before : List MemPlace),
      (∀ (j : Nat) t v, fn.params[j]? = some t -> args[j]? = some v -> Value.okWide C.prog W .any base t v) ->
      DataW.Whole enc C.prog fn.params.toList s.vars apart W args.toList ds gs before ->
      (DataW.weightsEach C.prog (fn.params.toList ++ s.plain.varTypes C.prog) (ds ++ gs)).all (· <= reachBytes) = true -> W.ShapedOpen C.prog -> X W args ->
      Calls C.prog f args W fun e W' => ∃ v, e = .returned v /\ s.post enc C.prog fn apart fresh handsOn again W args v W') :
    ReturnsInHanded a C os f .any (fun w args => (s.pre enc C.prog fn conds apart w args /\ X w args) /\ sizedMet enc C.prog fn (OpenSpec.ofChange s) apart w args) (s.post enc C.prog fn apart fresh handsOn again) := by
  refine returnsInHanded_of_calls own started noInit witness ?_
  intro w tape i _ hsh _ hok hpre hholds
  obtain ⟨_, _, _, fn', hfn', _, _, _, _, hval⟩ := hok
  have e : fn' = fn := Option.some.inj (hfn'.symm.trans hfn)
  subst e
  obtain ⟨⟨⟨ds, gs, before, hw, hc⟩, hx⟩, hz⟩ := hpre
  have hw' := DataW.Whole.of_heap (w' := w.forCall tape i) (by rfl) hw
  refine (contract (w.forCall tape i) w.heap.size i.args ds gs before hval hw' (hz.weights hw) hsh (hX _ _ _ (by rfl) hx)).mono fun e W' ⟨v, he, hp⟩ => ?_
  subst he
  exact ChangeSpec.post_blind hp
end Go.Proofs.YtifmdkcpbajdcabGreatDoor

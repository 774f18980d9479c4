/- From what a row lists to what reading a line leans on. -/
import Derived.Test.YtifmdkcpbajdcaaDoorLineMem
import Derived.Test.YtifmdkcpbajdcaaDoorRows
import Derived.Stop.LaidErr
import Derived.Lib.LaidTab
import Derived.SliceStrings
import Derived.Shelf.Vars
import Derived.HandedShaped
import Derived.MakeChecks
namespace Go.Proofs.YtifmdkcpbajdcaaDoor
open Go.RowKit Go.Proofs Plain Go.ChangeShapes

def listed : List (String × DataW Unit) := [("math/bits.deBruijn32tab", Rows.laid_math_bits_deBruijn32tab), ("math/bits.deBruijn64tab", Rows.laid_math_bits_deBruijn64tab), ("internal/strconv.uint64pow10", Rows.laid_internal_strconv_uint64pow10), ("unicode/utf8.acceptRanges", Rows.laid_unicode_utf8_acceptRanges), ("strconv.ErrRange", Rows.laid_strconv_ErrRange), ("strconv.ErrSyntax", Rows.laid_strconv_ErrSyntax), ("berthing/line.words", Rows.laid_berthing_line_words), ("berthing/line.counts", Rows.laid_berthing_line_counts), ("unicode/utf8.first", Rows.laid_unicode_utf8_first)]

theorem err_star : "*" ++ "errors.errorString" = "*errors.errorString" := by decide
theorem err_row (u : TypeId) (h : Tryd.prog.typeName? 3 u = some "*errors.errorString") : u = 82 :=
  typeName_ptr_named (nm := "errors.errorString") (by rw [err_star]; kernel_rfl) (by kernel_rfl) (by decide) u (by rw [err_star]; exact h)

theorem pow_data : (Rows.laid_internal_strconv_uint64pow10 : DataW Unit) = Lib.tabData .u64 Lib.pow10Tab := rfl
theorem counts_data : (Rows.laid_berthing_line_counts : DataW Unit) = Lib.tabData .i64 (countsL.map fun n : Nat => (n : Int)) := rfl

theorem glob_pow : Tryd.prog.globalNamed "internal/strconv.uint64pow10" = some 4 := by kernel_rfl
theorem glob_counts : Tryd.prog.globalNamed "berthing/line.counts" = some 1 := by kernel_rfl
theorem glob_words : Tryd.prog.globalNamed "berthing/line.words" = some 0 := by kernel_rfl
theorem glob_rang : Tryd.prog.globalNamed "strconv.ErrRange" = some 3 := by kernel_rfl
theorem glob_synt : Tryd.prog.globalNamed "strconv.ErrSyntax" = some 2 := by kernel_rfl

theorem strs_words : (Rows.laid_berthing_line_words : DataW Unit) = .slice (strs wordsB) [] := rfl

set_option maxRecDepth 100000 in
theorem words_of_laid {W : World} {r : List (String × DataW Unit)} (h : laidMet Tryd.prog (("berthing/line.words", Rows.laid_berthing_line_words) :: r) W) :
    ∃ b off c, W.cell? ⟨0, 0, none⟩ = some (.slice (some ⟨b, off, none⟩) 15 c) ∧ 15 ≤ c ∧ b < W.heap.size ∧ ∀ j, j < 15 → W.cell? ⟨b, off + j, none⟩ = some (.string (bs (wordsL.getD j []))) := by
  obtain ⟨ps, ⟨g, t, cs, fuel, p, q, hg, ht, hv, hd, _, e0⟩, _, hrows⟩ := h
  obtain rfl := Option.some.inj (glob_words.symm.trans hg)
  obtain rfl : 32 = t := Option.some.inj ((show (Tryd.prog.globals[0]?).map (·.type) = some 32 by kernel_rfl).symm.trans ht)
  rcases open_strings Tryd.underlying32 Tryd.underlying9 (by kernel_rfl) hd with ⟨_, hx⟩ | ⟨a, len, cap, ss, hcs, _, hle, hm, hsl, hx, hcell, _⟩
  · injection hx with h1 h2; cases h1
  · rw [if_pos rfl] at hsl
    injection hx with h1 h2
    rw [strs_words] at h1
    injection h1 with h1 h3
    have hlen : (ss.take len).length = 15 := by
      have := congrArg List.length h1
      rw [strs, strs, List.length_map, List.length_map] at this
      rw [← this]; simp [wordsB, wordsL]
    have hl15 : len = 15 ∧ 15 ≤ ss.length := by
      rw [List.length_take] at hlen
      have h4 := congrArg List.length h3
      rw [strs, List.length_map, List.length_drop] at h4
      simp at h4
      omega
    have hb : ss.take len = wordsB := by
      refine List.ext_getElem (by rw [hlen]; simp [wordsB, wordsL]) fun i h4 h5 => ?_
      have h6 := congrArg (fun l => l[i]?) h1
      simp only [strs, List.getElem?_map, List.getElem?_eq_getElem h4, List.getElem?_eq_getElem h5, Option.map_some, Option.some.injEq] at h6
      injection h6 with h6
      injection h6 with h6
      exact bytes_inj h6.symm
    have hc0 : W.cell? ⟨0, 0, none⟩ = some (.slice (some a) len cap) := by
      have := World.var?_cell glob_words hv 0
      rw [this, ← Array.getElem?_toList, hcs]; rfl
    have hsome : ∀ i, i < ss.length → W.cell? (a.add i) = some (.string (ss.getD i ByteArray.empty)) := hcell
    have ha0 := hsome 0 (by omega)
    obtain ⟨b, off, el⟩ := a
    cases el with
    | some x =>
      have := World.cell?_spot ha0
      simp [Addr.add] at this
    | none =>
      have hadd : ∀ i, (⟨b, off, none⟩ : Addr).add i = ⟨b, off + i, none⟩ := fun i => by unfold Addr.add; split <;> simp_all
      rw [hl15.1] at hc0
      refine ⟨b, off, cap, hc0, by omega, ?_, fun j hj => ?_⟩
      · rw [hadd] at ha0; exact World.block_lt_of_cell? W _ ha0
      · have := hsome j (by omega)
        rw [hadd] at this
        rw [this]
        have h7 : ss.getD j ByteArray.empty = wordsB.getD j ByteArray.empty := by
          rw [← hb, List.getD_eq_getElem?_getD, List.getD_eq_getElem?_getD, List.getElem?_take, if_pos (by omega)]
        rw [h7, List.getD_eq_getElem?_getD, List.getD_eq_getElem?_getD, wordsB, List.getElem?_map, List.getElem?_eq_getElem (by simp [wordsL]; omega)]
        rfl

theorem line_of_laid {W : World} (h0 : laidMetH Tryd.prog listed W) (hsh : W.ShapedOpen Tryd.prog) : LineAt W.heap.size W := by
  rw [MakeChecks.laidMetH_plain _ _ _ (by kernel_rfl)] at h0
  have h := h0
  unfold listed at h
  have hpow : Lib.TabIs Tryd.prog W "internal/strconv.uint64pow10" .u64 Lib.pow10Tab := by
    have := h.tail.tail
    rw [pow_data] at this
    exact Lib.tabIs_of_head glob_pow (t := 74) (e := 56) (n := 20) (by kernel_rfl) (by kernel_rfl) (by kernel_rfl) (by kernel_rfl) (by kernel_rfl) this
  have hcnt : Lib.TabIs Tryd.prog W "berthing/line.counts" .i64 (countsL.map fun n : Nat => (n : Int)) := by
    have := h.tail.tail.tail.tail.tail.tail.tail
    rw [counts_data] at this
    exact Lib.tabIs_of_head glob_counts (t := 34) (e := 3) (n := 15) (by kernel_rfl) (by kernel_rfl) (by kernel_rfl) (by kernel_rfl) (by kernel_rfl) this
  obtain ⟨a0, s0, hv0, -, -, -⟩ := laid_sentinel (ti := 40) (tp := 82) (te := 84) (ts := 9) h.tail.tail.tail.tail glob_rang (by kernel_rfl) Tryd.underlying40 err_row Tryd.underlying82 Tryd.underlying84 rfl rfl Tryd.underlying9 (by kernel_rfl) (by kernel_rfl)
  obtain ⟨a1, s1, hv1, -, -, -⟩ := laid_sentinel (ti := 40) (tp := 82) (te := 84) (ts := 9) h.tail.tail.tail.tail.tail glob_synt (by kernel_rfl) Tryd.underlying40 err_row Tryd.underlying82 Tryd.underlying84 rfl rfl Tryd.underlying9 (by kernel_rfl) (by kernel_rfl)
  obtain ⟨m, hm⟩ := cell_of_shapedOpen_int (g := 5) (t := 3) (k := .i64) (zero := #[.int .i64 0]) hsh (of_decide_eq_true (by kernel_rfl)) (by kernel_rfl) rfl (by kernel_rfl) (by kernel_rfl) (by kernel_rfl)
  have hc : ∀ j, j < 15 → W.cell? ⟨1, j, none⟩ = some (.int .i64 (countsL.getD j 0 : Nat)) := fun j hj => by
    have := hcnt.cell glob_counts j (by simpa [countsL] using hj)
    rw [this]
    congr 2
    rw [List.getD_eq_getElem?_getD, List.getD_eq_getElem?_getD, List.getElem?_map, List.getElem?_eq_getElem (by simpa [countsL] using hj)]
    rfl
  have hw := words_of_laid h.tail.tail.tail.tail.tail.tail
  have hs : W.cell? ⟨2, 0, none⟩ = some (.iface 82 (.pointer (some a1))) := by have := World.var?_cell glob_synt hv1 0; simpa using this
  have hr : W.cell? ⟨3, 0, none⟩ = some (.iface 82 (.pointer (some a0))) := by have := World.var?_cell glob_rang hv0 0; simpa using this
  obtain ⟨bw, ow, cw, hw1, hwr⟩ := id hw
  exact ⟨Nat.le_refl _, ⟨cell_lt hw1, cell_lt (hc 0 (by omega)), cell_lt hs, cell_lt hr, cell_lt hm⟩, hw, hc, ⟨_, _, hs⟩, ⟨_, _, hr⟩, Lib.tabBelow_of_tabIs hpow, ⟨m, hm⟩⟩
end Go.Proofs.YtifmdkcpbajdcaaDoor

/- Words for the walk of a plan that is mended: what stands in memory; plain facts of the rounds. -/
import Derived.Test.YtifmdkcpbajdcabDifferW
import Derived.Test.YtifmdkcpbajdcabLostW
namespace Go.Proofs.Ytifmdkcpbajdcab
open Go.RowKit Go.Proofs Plain

theorem diff_len (l m : Prof) (d : Dirt) : (diff l m d).length ≤ d.length + l.length + m.length := by
  induction l, m, d using diff.induct with
  | case1 m d => simp [diff]
  | case2 s l d => simp [diff]
  | case3 a x r b y s d hlt ih =>
    rw [diff, if_pos hlt]
    by_cases hx : x ≠ y
    · rw [dif_pos hx] at ih
      rw [if_pos hx]
      have h2 := addD_len d (max a b) (min (nextAt r) (nextAt s))
      simp only [List.length_cons] at ih ⊢; omega
    · rw [dif_neg hx] at ih
      rw [if_neg hx]
      simp only [List.length_cons] at ih ⊢; omega
  | case4 a x r b y s d h1 hlt ih =>
    rw [diff, if_neg h1, if_pos hlt]
    by_cases hx : x ≠ y
    · rw [dif_pos hx] at ih
      rw [if_pos hx]
      have h2 := addD_len d (max a b) (min (nextAt r) (nextAt s))
      simp only [List.length_cons] at ih ⊢; omega
    · rw [dif_neg hx] at ih
      rw [if_neg hx]
      simp only [List.length_cons] at ih ⊢; omega
  | case5 a x r b y s d h1 h2 ih =>
    rw [diff, if_neg h1, if_neg h2]
    by_cases hx : x ≠ y
    · rw [dif_pos hx] at ih
      rw [if_pos hx]
      have h2 := addD_len d (max a b) (min (nextAt r) (nextAt s))
      simp only [List.length_cons] at ih ⊢; omega
    · rw [dif_neg hx] at ih
      rw [if_neg hx]
      simp only [List.length_cons] at ih ⊢; omega

theorem place_range {was : Port} {plan : List Int} (h : PGood was) (hp : IsPlan was plan) (i : Nat) : -1 ≤ place plan i ∧ place plan i ≤ 300 := by
  unfold place
  by_cases hi : i < was.ships.length
  · by_cases hs : (was.ship i).state = 1
    · rcases First.none_or h.now.1 (hp.first i hi hs) with e | ⟨_, e1, e2⟩
      · omega
      · have := e2.1; have := ((h.ship i hi).1).long; omega
    · have := hp.other i hi hs; omega
  · rw [List.getD_eq_getElem?_getD, List.getElem?_eq_none (by rw [hp.len]; omega)]; simp

def mend0 (was now : Port) (plan : List Int) : MSt := ⟨(baseL now).1, leftD was plan (dirt0 was now) (lostL was now), noneL now.ships.length, 0⟩
def mendAt (was now : Port) (plan : List Int) (k : Nat) : MSt := ((rankL now).take k).foldl (mendStep was now plan) (mend0 was now plan)
theorem mendAt_next {was now : Port} {plan : List Int} {k : Nat} (h : k < (rankL now).length) : mendAt was now plan (k + 1) = mendStep was now plan (mendAt was now plan k) ((rankL now).getD k 0) := by
  unfold mendAt
  rw [List.take_add_one, List.getElem?_eq_getElem h, Option.toList_some, List.foldl_append, List.getD_eq_getElem?_getD, List.getElem?_eq_getElem h]; rfl
theorem mendAt_all {was now : Port} {plan : List Int} (h : (baseL now).2 = true) : ((mendAt was now plan (rankL now).length).out, (mendAt was now plan (rankL now).length).n) = mendL was now plan (rankL now) := by
  unfold mendAt mendL
  rw [List.take_length, if_pos h]; rfl

theorem mend0_inv {was now : Port} {plan : List Int} (hwas : PGood was) (hnow : PGood now) : MInv was now plan (rankL now) [] (rankL now) (mend0 was now plan) := by
  have hb := (base_good hnow.toFair).1.2 hnow.room
  obtain ⟨g1, g2⟩ := (base_good hnow.toFair).2 hb
  have hbw := (base_good hwas.toFair).1.2 hwas.room
  obtain ⟨w1, w2⟩ := (base_good hwas.toFair).2 hbw
  unfold mend0
  refine ⟨g1, fun u u0 u1 => by simp [g2 u u0 u1], by simp [noneL], fun j _ => getD_none _ _, rfl, fun u u0 u1 hu => ?_, fun u u0 u1 hu j hj hl => ?_, fun u _ _ _ j hj => by simp at hj, Int.le_refl _, by simp⟩
  · have hu : ¬ InD (dirt0 was now) u := fun h => hu (leftD_keeps _ _ _ _ _ h)
    unfold dirt0 at hu
    by_cases hc : was.now = now.now
    · rw [if_pos ⟨hbw, hc⟩] at hu
      refine ⟨?_, hc⟩
      rw [← w2 u u0 u1, ← g2 u u0 u1]
      exact diff_good w1 g1 u u0 u1 hu
    · rw [if_neg (fun h => hc h.2)] at hu
      exact absurd (inD_add u0 u1) hu
  · refine Classical.byContradiction fun hc => hu (leftD_covers was plan u _ _ j ?_ hc)
    simp only [lostL, List.mem_filter, List.mem_range]
    exact ⟨hj, hl⟩

theorem mendAt_inv {was now : Port} {plan : List Int} (hwas : PGood was) (hnow : PGood now) (hp : IsPlan was plan) : ∀ k, k ≤ (rankL now).length → MInv was now plan (rankL now) ((rankL now).take k) ((rankL now).drop k) (mendAt was now plan k)
  | 0, _ => by simpa [mendAt] using mend0_inv hwas hnow
  | k + 1, hk => by
    have ih := mendAt_inv hwas hnow hp k (by omega)
    have hlt : k < (rankL now).length := by omega
    have hd : (rankL now).drop k = (rankL now).getD k 0 :: (rankL now).drop (k + 1) := by
      rw [List.drop_eq_getElem_cons hlt, List.getD_eq_getElem?_getD, List.getElem?_eq_getElem hlt]; rfl
    rw [hd] at ih
    have := minv_step hwas hnow hp (rankL_is hnow) (by rw [← hd, List.take_append_drop]) ih
    rw [mendAt_next hlt]
    have ht : (rankL now).take (k + 1) = (rankL now).take k ++ [(rankL now).getD k 0] := by
      rw [List.take_add_one, List.getElem?_eq_getElem hlt, List.getD_eq_getElem?_getD, List.getElem?_eq_getElem hlt]; rfl
    rw [ht]; exact this

theorem leftD_next (was : Port) (plan : List Int) (d : Dirt) (xs : List Nat) (x : Nat) : leftD was plan d (xs ++ [x]) = gone (leftD was plan d xs) (place plan x) (was.ship x).long := by
  unfold leftD; rw [List.foldl_append]; rfl
theorem leftD_len (was : Port) (plan : List Int) (xs : List Nat) : ∀ d, (leftD was plan d xs).length ≤ d.length + xs.length := by
  induction xs with
  | nil => intro d; simp [leftD]
  | cons x xs ih =>
    intro d
    have h1 := ih (gone d (place plan x) (was.ship x).long)
    have h2 := gone_len d (place plan x) (was.ship x).long
    have : leftD was plan d (x :: xs) = leftD was plan (gone d (place plan x) (was.ship x).long) xs := rfl
    rw [this, List.length_cons]; omega
theorem movedD_len (was now : Port) (d : Dirt) (i : Nat) (old t : Int) : (movedD was now d i old t).length ≤ d.length + 2 := by
  rw [movedD_eq]; unfold movedS
  split
  · omega
  · have h1 := gone_len d old (longS was i (now.ship i))
    have h2 := gone_len (gone d old (longS was i (now.ship i))) t (now.ship i).long
    omega
theorem mendAt_len (was now : Port) (plan : List Int) : ∀ k, k ≤ (rankL now).length → (mendAt was now plan k).d.length ≤ (mend0 was now plan).d.length + 2 * k
  | 0, _ => by simp [mendAt]
  | k + 1, hk => by
    have ih := mendAt_len was now plan k (by omega)
    rw [mendAt_next (by omega)]
    have hs : ∀ (st : MSt) (i : Nat) (t : Int), (setT now st i t).d = st.d := fun _ _ _ => rfl
    unfold mendStep
    split
    · rw [hs]; have := movedD_len was now (mendAt was now plan k).d ((rankL now).getD k 0) (place plan ((rankL now).getD k 0)) (fitL (mendAt was now plan k).b (max 0 now.now) (now.ship ((rankL now).getD k 0)).long (now.ship ((rankL now).getD k 0)).wide)
      show List.length (movedD _ _ _ _ _ _) ≤ _
      omega
    · rw [hs]; omega

theorem lost_get {was now : Port} {k : Nat} (h : k < (lostL was now).length) : (lostL was now).getD k 0 < was.ships.length := by
  rw [List.getD_eq_getElem?_getD, List.getElem?_eq_getElem h]
  have := List.getElem_mem h
  unfold lostL at this
  simp only [List.mem_filter, List.mem_range] at this
  exact this.1
theorem left_next {was now : Port} {plan : List Int} {d : Dirt} {k : Nat} (h : k < (lostL was now).length) :
    leftD was plan d ((lostL was now).take (k + 1)) = gone (leftD was plan d ((lostL was now).take k)) (place plan ((lostL was now).getD k 0)) (was.ship ((lostL was now).getD k 0)).long := by
  rw [← leftD_next, List.take_add_one, List.getElem?_eq_getElem h, List.getD_eq_getElem?_getD, List.getElem?_eq_getElem h]; rfl
theorem lost_le (was now : Port) : (lostL was now).length ≤ was.ships.length := by
  have := List.length_filter_le (lostB was now) (List.range was.ships.length)
  rwa [List.length_range] at this
theorem dirt0_len (was now : Port) (h1 : (baseL was).1.length ≤ 300) (h2 : (baseL now).1.length ≤ 300) : (dirt0 was now).length ≤ 600 := by
  unfold dirt0
  split
  · have := diff_len (baseL was).1 (baseL now).1 []
    simp at this; omega
  · have := addD_len [] 0 300
    simp at this; omega

def stepT (was now : Port) (plan : List Int) (st : MSt) (j : Nat) : Int := if againB was now plan st.d j = true then fitL st.b (max 0 now.now) (now.ship j).long (now.ship j).wide else place plan j
def stepN (was now : Port) (plan : List Int) (st : MSt) (j : Nat) : Int := if againB was now plan st.d j = true then st.n + 1 else st.n
def stepDd (was now : Port) (plan : List Int) (st : MSt) (j : Nat) : Dirt := if againB was now plan st.d j = true then movedD was now st.d j (place plan j) (fitL st.b (max 0 now.now) (now.ship j).long (now.ship j).wide) else st.d
theorem mendStep_eq (was now : Port) (plan : List Int) (st : MSt) (j : Nat) : mendStep was now plan st j = setT now { st with n := stepN was now plan st j, d := stepDd was now plan st j } j (stepT was now plan st j) := by
  unfold mendStep stepN stepDd stepT
  by_cases h : againB was now plan st.d j = true
  · simp only [if_pos h]
  · simp only [if_neg h]
theorem stepT_range {was now : Port} {plan : List Int} {st : MSt} {j : Nat} (hwas : PGood was) (hnow : PGood now) (hp : IsPlan was plan) (hg : Plain.Good st.b) (hj : j < now.ships.length) : -1 ≤ stepT was now plan st j ∧ stepT was now plan st j ≤ 300 := by
  unfold stepT
  split
  · have := ((hnow.ship j hj).1).long
    rcases planAt_fits hnow hg hj with e | e <;> omega
  · exact place_range hwas hp j

theorem dirt_new (w : World) : DirtAt (w.alloc (.cells #[.slice none 0 0] 66)) w.heap.size (w.heap.size + 1) (.slice none 0 0) [] :=
  ⟨heap_alloc_new w _, Nat.lt_succ_self _, ⟨rfl, .inl ⟨rfl, rfl⟩⟩⟩

/-- What stands in memory while a plan is mended. -/
structure MS (w wq : World) (was now : Port) (A1 A2 : Option Addr) (c1 c2 g : Nat) (vd : Value) (dd : Dirt) (out : List Int) (A4 : Option Addr) (b : Prof) (A3 : Option Addr) (q : List Int) : Prop where
  pw : PortAt wq w.heap.size was A1 c1
  pn : PortAt wq (w.heap.size + 1) now A2 c2
  io : Ints wq (w.heap.size + 2) out
  dt : DirtAt wq g (g + 1) vd dd
  gg : w.heap.size + 3 ≤ g
  bl : Below w.heap.size w wq
  sb : Sl wq 2 A4 b.length (stepCells b)
  ob : Off wq g vd A4 b.length
  fb : Fr (w.heap.size + 3) A4
  sq : Sl wq 1 A3 q.length (q.map (Value.int .i64))
  oq : Off wq g vd A3 q.length
  fq : Fr (w.heap.size + 3) A3

/-- A ship's variable beside what is dirty. -/
structure SA (w wq : World) (g : Nat) (v : Value) (g23 : Nat) (s : Ship) : Prop where
  at_ : wq.heap[g23]? = some (.cells (shipV s) 38 (0, 0))
  ne : g23 ≠ g
  own : some g23 ≠ v.ownBlock
  lo : w.heap.size + 3 ≤ g23

section
variable {w wq w' : World} {g g23 : Nat} {v v' : Value} {s : Ship}
theorem SA.size (h : SA w wq g v g23 s) : g23 < wq.heap.size := (Array.getElem?_eq_some_iff.1 h.at_).1
theorem SA.adds (h : SA w wq g v g23 s) (ha : Adds g wq w' v v') : SA w w' g v' g23 s := by
  refine ⟨(ha.block g23 h.size h.ne h.own).trans h.at_, h.ne, ?_, h.lo⟩
  rcases ha.own with e | ⟨j, e, hj⟩
  · rw [e]; exact h.own
  · rw [e]; intro e2; cases e2; have := h.size; omega
theorem SA.below (h : SA w wq g v g23 s) (hb : Below wq.heap.size wq w') : SA w w' g v g23 s := h.adds (.of_below hb)
theorem SA.set (h : SA w wq g v g23 s) (j : Nat) (u : Value) : SA w (wq.setCell ⟨w.heap.size + 2, j, none⟩ u) g v g23 s := ⟨(Below.heap_setCell wq _ _ _ (by have := h.lo; simp; omega)).trans h.at_, h.ne, h.own, h.lo⟩
theorem SA.cell (h : SA w wq g v g23 s) (j : Nat) : wq.cell? ⟨g23, j, none⟩ = (shipV s)[j]? := by rw [cell_of_row wq g23 j _ _ _ h.at_]
end

section
variable {w wq w' : World} {was now : Port} {A1 A2 : Option Addr} {c1 c2 g : Nat} {vd vd' : Value} {dd dd' : Dirt} {out : List Int} {A4 A7 : Option Addr} {b b' : Prof} {A3 : Option Addr} {q : List Int}
theorem MS.adds (h : MS w wq was now A1 A2 c1 c2 g vd dd out A4 b A3 q) (hd : DirtAt w' g (g + 1) vd' dd') (ha : Adds g wq w' vd vd') : MS w w' was now A1 A2 c1 c2 g vd' dd' out A4 b A3 q := by
  have hb : Below g wq w' := ha.below h.dt (Nat.le_refl _)
  have hg := h.gg
  exact ⟨h.pw.below hb (by omega), h.pn.below hb (by omega), h.io.below hb (by omega), hd, hg, h.bl.trans (hb.mono (by omega)), h.sb.adds h.ob ha, h.ob.adds ha, h.fb, h.sq.adds h.oq ha, h.oq.adds ha, h.fq⟩
theorem MS.below (h : MS w wq was now A1 A2 c1 c2 g vd dd out A4 b A3 q) (hb : Below wq.heap.size wq w') : MS w w' was now A1 A2 c1 c2 g vd dd out A4 b A3 q := h.adds (h.dt.below hb) (.of_below hb)
theorem MS.alloc (h : MS w wq was now A1 A2 c1 c2 g vd dd out A4 b A3 q) (o : Obj) : MS w (wq.alloc o) was now A1 A2 c1 c2 g vd dd out A4 b A3 q := h.below ((Below.refl _ _).alloc (Nat.le_refl _) _)
theorem MS.set (h : MS w wq was now A1 A2 c1 c2 g vd dd out A4 b A3 q) (j : Nat) (t : Int) : MS w (wq.setCell ⟨w.heap.size + 2, j, none⟩ (.int .i64 t)) was now A1 A2 c1 c2 g vd dd (out.set j t) A4 b A3 q := by
  have hg := h.gg
  have hz : (wq.setCell ⟨w.heap.size + 2, j, none⟩ (.int .i64 t)).heap.size = wq.heap.size := by simp [World.setCell]
  exact ⟨(Below.heap_setCell wq _ _ _ (by simp)).trans h.pw, (Below.heap_setCell wq _ _ _ (by simp)).trans h.pn, h.io.set j t, h.dt.beside _ _ (by simp; omega), hg, h.bl.setCell (by simp) _,
    h.sb.beside h.fb _, h.ob.size (by rw [hz]; exact Nat.le_refl _), h.fb, h.sq.beside h.fq _, h.oq.size (by rw [hz]; exact Nat.le_refl _), h.fq⟩
theorem MS.rank {A6 : Option Addr} {q' : List Int} (h : MS w wq was now A1 A2 c1 c2 g vd dd out A4 b A3 q) (hb : Below wq.heap.size wq w') (hs : Sl w' 1 A6 q'.length (q'.map (Value.int .i64))) (hf : Fr wq.heap.size A6) : MS w w' was now A1 A2 c1 c2 g vd dd out A4 b A6 q' := by
  have h2 := h.below hb
  exact ⟨h2.pw, h2.pn, h2.io, h2.dt, h2.gg, h2.bl, h2.sb, h2.ob, h2.fb, hs, Off.new hs (by omega) hf h.dt, hf.mono h.io.lt⟩
theorem MS.prof (h : MS w wq was now A1 A2 c1 c2 g vd dd out A4 b A3 q) (hb : Below wq.heap.size wq w') (hs : Sl w' 2 A7 b'.length (stepCells b')) (hf : A7 = A4 ∨ Fr wq.heap.size A7) (hl : 0 < b.length) : MS w w' was now A1 A2 c1 c2 g vd dd out A7 b' A3 q := by
  have h2 := h.below hb
  refine ⟨h2.pw, h2.pn, h2.io, h2.dt, h2.gg, h2.bl, hs, ?_, fr_or hf h.fb (by have := h.io.lt; omega), h2.sq, h2.oq, h2.fq⟩
  rcases hf with rfl | hf
  · exact fun _ => h2.ob hl
  · exact Off.new hs (by omega) hf h.dt
theorem MS.ship (h : MS w wq was now A1 A2 c1 c2 g vd dd out A4 b A3 q) (s : Ship) : SA w (wq.alloc (.cells (shipV s) 38)) g vd wq.heap.size s := by
  have h1 := h.dt.size
  refine ⟨heap_alloc_new wq _, by omega, fun e => ?_, h.io.lt⟩
  have := h.dt.own.block _ e.symm; omega
end
end Go.Proofs.Ytifmdkcpbajdcab

/- Walks: profiles that are read. -/
import Derived.Test.YtifmdkcpbajdcabGreatDoorWords
import Derived.Test.YtifmdkcpbajdcabGreatDoorPlain
import Derived.Test.YtifmdkcpbajdcabGreatDoorChecked
import Derived.WalkKit
import Derived.WalkSpells
import Derived.WalkLawsBesides
import Derived.Deep.QuietTactic
import Derived.BigQuiet
import Derived.Handy
import Derived.Laws.ResultCell
set_option linter.unusedVariables false
set_option linter.unusedSimpArgs false
set_option maxHeartbeats 20000000
namespace Go.Proofs.YtifmdkcpbajdcabGreatDoor
open Go.RowKit Plain
open Go.Lib renaming hid -> hd_
def stC : Prof -> List Value
  | [] => []
  | s :: r => .int .i64 s.1 :: .int .i64 s.2 :: stC r
theorem stepCells_len (l : Prof) : (stC l).length = l.length * 2 := by
  induction l with
  | nil => rfl
  | cons s r ih => simp only [stC, List.length_cons, ih]; omega
theorem stepCells_get (l : Prof) : ∀ j, j < l.length -> (stC l)[2 * j]? = some (.int .i64 (l.getD j (0, 0)).1) /\ (stC l)[2 * j + 1]? = some (.int .i64 (l.getD j (0, 0)).2) := by
  induction l with
  | nil => intro j hj; simp at hj
  | cons s r ih =>
    intro j hj
    cases j with
    | zero => simp [stC]
    | succ j =>
      obtain ⟨h1, h2⟩ := ih j (by simpa using hj)
      rw [show 2 * (j + 1) = 2 * j + 1 + 1 by omega]
      simp only [stC, List.getElem?_cons_succ, List.getD_cons_succ]
      exact ⟨h1, h2⟩
theorem steps_at {w : World} {A : Option Addr} {l : Prof} (h : Sl w 2 A l.length (stC l)) (hl : 0 < l.length) :
    ∃ b off, A = some ⟨b, off, none⟩ /\ b < w.heap.size /\
      ∀ j, j < l.length -> w.cell? ⟨b, off + j * 2, none⟩ = some (.int .i64 (l.getD j (0, 0)).1) /\ w.cell? ⟨b, off + j * 2 + 1, none⟩ = some (.int .i64 (l.getD j (0, 0)).2) := by
  obtain ⟨b, off, e, hc⟩ := h.2 (by omega)
  obtain ⟨b', off', e', hlt⟩ := h.lt (by omega)
  rw [e] at e'
  injection e' with e'
  injection e' with e1 e2
  subst e1
  refine ⟨b, off, e, hlt, fun j hj => ?_⟩
  obtain ⟨g1, g2⟩ := stepCells_get l j hj
  rw [show off + j * 2 + 1 = off + (2 * j + 1) by omega, show off + j * 2 = off + 2 * j by omega, hc _ (by omega), hc _ (by omega)]
  exact ⟨g1, g2⟩
theorem goodB_no {l : Prof} {k : Nat} (hk : k < l.length) (h : okAt l k = false) : goodB l = false := by
  simp only [goodB, Bool.and_eq_false_iff, List.all_eq_false, List.mem_range]
  exact .inr ⟨k, hk, by simp [h]⟩
theorem goodB_yes {l : Prof} (h : ∀ j, j < l.length -> okAt l j = true) : goodB l = decide (0 < l.length) := by
  simp only [goodB]
  rw [List.all_eq_true.2 fun j hj => h j (List.mem_range.1 hj), Bool.and_true]
theorem ok_bad {l : Prof} {k : Nat} (h : (l.getD k (0, 0)).2 < 0 \/ 16 < (l.getD k (0, 0)).2 \/ 300 <= (l.getD k (0, 0)).1) : okAt l k = false := by
  simp only [okAt, Bool.and_eq_false_iff, decide_eq_false_iff_not]
  rcases h with h | h | h
  · exact .inl (.inl (.inl (by omega)))
  · exact .inl (.inl (.inr (by omega)))
  · exact .inl (.inr (by omega))
theorem ok_zero (l : Prof) : okAt l 0 = (decide (0 <= (l.getD 0 (0, 0)).2) && decide ((l.getD 0 (0, 0)).2 <= 16) && decide ((l.getD 0 (0, 0)).1 < 300) && decide ((l.getD 0 (0, 0)).1 = 0)) := rfl
theorem ok_succ (l : Prof) (k : Nat) : okAt l (k + 1) = (decide (0 <= (l.getD (k + 1) (0, 0)).2) && decide ((l.getD (k + 1) (0, 0)).2 <= 16) && decide ((l.getD (k + 1) (0, 0)).1 < 300) &&
    (decide ((l.getD k (0, 0)).1 < (l.getD (k + 1) (0, 0)).1) && decide ((l.getD k (0, 0)).2 ≠ (l.getD (k + 1) (0, 0)).2))) := rfl
theorem ok_more {l : Prof} {k : Nat} (h : ∀ j, j < k -> okAt l j = true) (hk : okAt l k = true) : ∀ j, j < k + 1 -> okAt l j = true := fun j hj => by
  by_cases e : j = k
  · rw [e]; exact hk
  · exact h j (by omega)
theorem good_any (l : Prof) (A : Option Addr) (c : Nat) (w : World) (h : Sl w 2 A l.length (stC l)) (hm : l.length <= maxLen) :
    Calls Tryz.prog 110 #[.slice A l.length c] w fun e w' => e = .returned (.bool (goodB l)) /\ Below w.heap.size w w' := by
  unfold maxLen at hm
  go_enter Tryz.func110, Tryz.ntmps110
  go_wp2_with fail
  go_loopw [7] (fun i wr => ∃ k : Nat, k <= l.length /\ i = .int .i64 k /\ (∀ j, j < k -> okAt l j = true) /\ Below w.heap.size w wr) (fun i _ => l.length - (intOf i).toNat)
  case atStart => exact ⟨0, Nat.zero_le _, rfl, fun j hj => absurd hj (by omega), Below.refl _ _⟩
  case round =>
    obtain ⟨k, hk, rfl, hok, hb⟩ := hrel
    by_cases hlt : k < l.length
    · have hsl := h.below hb
      obtain ⟨b, off, rfl, hbl, hcells⟩ := steps_at hsl (by omega)
      obtain ⟨c1, c2⟩ := hcells k hlt
      have HNO := hd_ (@goodB_no l k hlt)
      have HBAD := hd_ (@ok_bad l k)
      have HM := hd_ (@ok_more l k hok)
      clear hok hsl h
      by_cases e1 : (l.getD k (0, 0)).2 < 0
      · have HF := hd_ (HNO.out (HBAD.out (.inl e1)))
        clear hcells HM HBAD HNO
        generalize (l.getD k (0, 0)).1 = x at c1
        generalize (l.getD k (0, 0)).2 = y at c2 e1
        go_wp2_with fail
        go_quiet (fail)
        go_wp2_with fail
        go_ret
        exact ⟨rtB HF.out.symm, bdN (hb.alloc hb.size _) _⟩
      · by_cases e2 : 16 < (l.getD k (0, 0)).2
        · have HF := hd_ (HNO.out (HBAD.out (.inr (.inl e2))))
          clear hcells HM HBAD HNO
          generalize (l.getD k (0, 0)).1 = x at c1
          generalize (l.getD k (0, 0)).2 = y at c2 e1 e2
          have d1 : decide (y < 0) = false := by simpa using e1
          go_wp2_with fail
          go_quiet (fail)
          go_wp2_with fail
          go_ret
          exact ⟨rtB HF.out.symm, bdN (hb.alloc hb.size _) _⟩
        · by_cases e3 : 300 <= (l.getD k (0, 0)).1
          · have HF := hd_ (HNO.out (HBAD.out (.inr (.inr e3))))
            clear hcells HM HBAD HNO
            generalize (l.getD k (0, 0)).1 = x at c1 e3
            generalize (l.getD k (0, 0)).2 = y at c2 e1 e2
            have d1 : decide (y < 0) = false := by simpa using e1
            have d2 : decide (16 < y) = false := by simpa using e2
            go_wp2_with fail
            go_quiet (fail)
            go_wp2_with fail
            go_ret
            exact ⟨rtB HF.out.symm, bdN (hb.alloc hb.size _) _⟩
          · cases k with
            | zero =>
              have HK := hd_ (ok_zero l)
              clear hcells HBAD
              generalize (l.getD 0 (0, 0)).1 = x at c1 e3 HK
              generalize (l.getD 0 (0, 0)).2 = y at c2 e1 e2 HK
              simp only [Nat.zero_mul, Nat.add_zero] at c1 c2
              have d1 : decide (y < 0) = false := by simpa using e1
              have d2 : decide (16 < y) = false := by simpa using e2
              have d3 : decide (300 <= x) = false := by simpa using e3
              by_cases e4 : (x != 0) = true
              · have HF := hd_ (HNO.out (by rw [HK.out]; simp at e4; simp [e4]))
                clear HM HK HNO
                go_wp2_with fail
                go_quiet (fail)
                go_wp2_with fail
                go_ret
                exact ⟨rtB HF.out.symm, bdN (hb.alloc hb.size _) _⟩
              · have e4 : (x != 0) = false := by simpa using e4
                have HT := hd_ (HM.out (by rw [HK.out]; simp at e4; simp; omega))
                clear HM HK HNO
                go_wp2_with fail
                go_quiet (fail)
                go_wp2_with fail
                go_roundw
                case rel => exact ⟨1, hlt, by go_num, HT.out, bdN (hb.alloc hb.size _) _⟩
                case measure => simp [intOf] <;> omega
            | succ k =>
              have HK := hd_ (ok_succ l k)
              obtain ⟨c3, c4⟩ := hcells k (by omega)
              clear hcells HBAD
              generalize (l.getD (k + 1) (0, 0)).1 = x at c1 e3 HK
              generalize (l.getD (k + 1) (0, 0)).2 = y at c2 e1 e2 HK
              generalize (l.getD k (0, 0)).1 = x' at c3 HK
              generalize (l.getD k (0, 0)).2 = y' at c4 HK
              have d1 : decide (y < 0) = false := by simpa using e1
              have d2 : decide (16 < y) = false := by simpa using e2
              have d3 : decide (300 <= x) = false := by simpa using e3
              have hk1 : ((k : Int) + 1 == 0) = false := by rw [beq_eq_false_iff_ne]; omega
              have hw1 : IntKind.i64.wrap (k : Int) = (k : Int) := IntWalk.i64_in _ (by omega)
              by_cases e5 : x <= x'
              · have HF := hd_ (HNO.out (by rw [HK.out]; simp; omega))
                clear HM HK HNO
                go_wp2_with fail
                go_quiet (fail)
                go_wp2_with fail
                go_ret
                exact ⟨rtB HF.out.symm, bdN (hb.alloc hb.size _) _⟩
              · have d5 : decide (x <= x') = false := by simpa using e5
                by_cases e6 : (y' == y) = true
                · have HF := hd_ (HNO.out (by rw [HK.out]; simp at e6; simp [e6]))
                  clear HM HK HNO
                  go_wp2_with fail
                  go_quiet (fail)
                  go_wp2_with fail
                  go_ret
                  exact ⟨rtB HF.out.symm, bdN (hb.alloc hb.size _) _⟩
                · have e6 : (y' == y) = false := by simpa using e6
                  have HT := hd_ (HM.out (by rw [HK.out]; simp at e6; simp [e6]; omega))
                  clear HM HK HNO
                  go_wp2_with fail
                  go_quiet (fail)
                  go_wp2_with fail
                  go_roundw
                  case rel => exact ⟨k + 1 + 1, hlt, by go_num, HT.out, bdN (hb.alloc hb.size _) _⟩
                  case measure => simp [intOf] <;> omega
    · obtain rfl : k = l.length := by omega
      have HF := hd_ (goodB_yes hok)
      clear hok
      go_wp2_with fail
      go_ret
      exact ⟨rtB (by rw [HF.out]), hb⟩
theorem step_info : (Tryz.prog.info? 153).map (fun i => (i.zero, i.size, i.bytes)) = some (some (.agg #[.int .i64 0, .int .i64 0]), 2, 16) := by kernel_rfl
theorem cmpAt_any (x y t : Int) (w : World) (hx : 0 <= x /\ x <= 300) (ht : 0 <= t /\ t <= 300) :
    Calls Tryz.prog 163 #[.agg #[.int .i64 x, .int .i64 y], .int .i64 t] w fun e w' => e = .returned (.int .i64 (x - t)) /\ Below w.heap.size w w' := by
  obtain ⟨h1, h2⟩ := hx
  obtain ⟨h3, h4⟩ := ht
  go_enter Tryz.func163, Tryz.ntmps163
  go_wp2_with fail
  go_ret
  exact ⟨rfl, (Below.refl _ _).alloc (Nat.le_refl _) _⟩
theorem same_any (x y x' y' : Int) (w : World) :
    Calls Tryz.prog 166 #[.agg #[.int .i64 x, .int .i64 y], .agg #[.int .i64 x', .int .i64 y']] w fun e w' => e = .returned (.bool (y == y')) /\ Below w.heap.size w w' := by
  go_enter Tryz.func166, Tryz.ntmps166
  go_wp2_with fail
  go_ret
  exact ⟨rfl, ((Below.refl _ _).alloc (Nat.le_refl _) _).alloc (by simp) _⟩
theorem small_any (n : Int) (w : World) :
    Calls Tryz.prog 111 #[.int .i64 n] w fun e w' => e = .returned (.bool (decide (0 <= n) && decide (n <= 16))) /\ w = w' := by
  by_cases h : 0 <= n
  all_goals
    go_enter Tryz.func111, Tryz.ntmps111
    go_wp2_with fail
    go_ret
    exact ⟨rtB (by rw [Bool.eq_iff_iff]; simp; omega), rfl⟩
def Fr (n : Nat) (A : Option Addr) : Prop := ∀ x, A = some x -> n <= x.block
theorem Fr.mono {n m : Nat} {A : Option Addr} (h : Fr n A) (hm : m <= n) : Fr m A := fun x hx => Nat.le_trans hm (h x hx)
theorem Fr.none (n : Nat) : Fr n none := fun _ h => by cases h
theorem Fr.some {n b off : Nat} {s} (h : n <= b) : Fr n (some ⟨b, off, s⟩) := fun _ hx => by injection hx with hx; subst hx; exact h
theorem new_fr (w : World) : Calls Tryz.prog 86 #[] w fun e w' => ∃ A c, e = .returned (.slice A newL.length c) /\ Sl w' 2 A newL.length (stC newL) /\ Below w.heap.size w w' /\ Fr w.heap.size A := by
  go_enter Tryz.func86, Tryz.ntmps86
  go_wp2_with fail
  go_ret
  exact ⟨some ⟨w.heap.size, 0, none⟩, 1, rfl, Sl.new w _ _ rfl, (Below.refl _ _).alloc (Nat.le_refl _) _, Fr.some (Nat.le_refl _)⟩
abbrev Owns (w : World) (base : Nat) (A : Option Addr) (c : Nat) (l : Prof) : Prop := w.ownsRow base 153 2 (.slice A l.length c) l.length (stC l)
def RetOwn (base : Nat) (l : Prof) (w : World) (e : Ending) (w' : World) : Prop := ∃ A c, e = .returned (.slice A l.length c) /\ Owns w' base A c l /\ Below base w w'
theorem one_cells (l : Prof) : ∀ u ∈ stC l, u.oneCell' = true := by
  induction l with
  | nil => intro u h; simp [stC] at h
  | cons s r ih =>
    intro u h
    simp only [stC, List.mem_cons] at h
    rcases h with rfl | rfl | h
    · rfl
    · rfl
    · exact ih u h
theorem clone_any (l : Prof) (b off c : Nat) (w : World) (h : Sl w 2 (some ⟨b, off, none⟩) l.length (stC l)) (hm : l.length * 16 <= 140737488355328) :
    Calls Tryz.prog 135 #[.slice (some ⟨b, off, none⟩) l.length c] w (RetOwn w.heap.size l w) := by
  obtain ⟨i0, hi0, hz0, hz1, hz2⟩ := info_parts step_info
  have hnil := fun w' : World => Lib.run_eql_slice_nil (P := Tryz.prog) w' (t := 101)
  go_enter Tryz.func135, Tryz.ntmps135
  go_wp2_with (at_builtin; refine wpList_append_own _ rfl (.tmp 5) (.tmp 6) 101 rfl w.heap.size 153 i0 _ 2 16 Tryz.underlying101 hi0 hz0 hz1 hz2 rfl (by omega) (.slice (some ⟨w.heap.size, 0, none⟩) 0 0) 0 [] rfl (own_empty w _ _ _ (Nat.le_refl _)) ⟨b, off, none⟩ l.length c (stC l) rfl ?c1 ?c2 (one_cells l) ?c3 ?c4 ?c5 ?_)
  case c1 => exact stepCells_len l
  case c2 => exact (h.alloc _).news
  case c3 => unfold maxLen; omega
  case c4 => omega
  case c5 => simp
  intro v' w1 hown hgrow _
  obtain ⟨A, c', rfl⟩ := own_form hown
  go_wp2_with fail
  go_ret
  refine ⟨A, c', rfl, hown, ((Below.refl _ _).alloc (Nat.le_refl _) _).grown hgrow (by simp) ?_⟩
  intro k hk; simp [Value.ownBlock] at hk; omega
end Go.Proofs.YtifmdkcpbajdcabGreatDoor
namespace Go.Proofs.YtifmdkcpbajdcabGreatDoor
open Go.RowKit Go.Proofs Plain
theorem bG_ {a w w' : World} (h : Below a.heap.size a w) (h2 : Below w.heap.size w w') : Below a.heap.size a w' := h.trans (h2.mono h.size)
theorem oBk {w : World} {base e size n : Nat} {v : Value} {xs : List Value} (h : w.ownsRow base e size v n xs) : ∀ g, v.ownBlock = some g -> base <= g := by
  intro g hg
  rcases h.2 with ⟨hv, _⟩ | ⟨g', cap, cur, hv, hb, _⟩
  · rw [hv] at hg; cases hg
  · rw [hv] at hg; simp only [Value.ownBlock, Option.some.injEq] at hg; omega
theorem stepCells_app (l m : Prof) : stC (l ++ m) = stC l ++ stC m := by
  induction l with
  | nil => rfl
  | cons s r ih => simp only [List.cons_append, stC, ih]
def OwnS (w : World) (base : Nat) (v : Value) (l : Prof) : Prop := w.ownsRow base 153 2 v l.length (stC l)
def OwnI (w : World) (base : Nat) (v : Value) (l : List Int) : Prop := w.ownsRow base 3 1 v l.length (l.map (Value.int .i64))
theorem int_info : (Tryz.prog.info? 3).map (fun i => (i.zero, i.size, i.bytes)) = some (some (.int .i64 0), 1, 8) := by kernel_rfl
section
variable {ops : Array Oper} {rest : List Oper} {o : Oper} {a : Act} {w : World} {Q : Exit -> Act -> World -> Prop}
theorem news_row {g : Nat} {cs : Array Value} {T : TypeId} (hg : w.heap[g]? = some (.cells cs T (0, 0))) (h1 : ∀ u ∈ cs.toList, u.oneCell' = true) : ∀ (j : Nat) u, cs.toList[j]? = some u -> w.cell? ((⟨g, 0, none⟩ : Addr).add j) = some u := by
  intro j u hj
  have : (⟨g, 0, none⟩ : Addr).add j = ⟨g, j, none⟩ := by unfold Addr.add; split <;> simp_all
  rw [this, cell_of_row w g j cs T (0, 0) hg]
  simpa using hj
theorem wpList_append_int (hgd : o.guard = none) (s x : Operand) (ho : o.op = .call { callee := .builtin .append, args := #[s, x], argTypes := #[38, 38] })
    (base : Nat) (v : Value) (l : List Int) (hs : a.eval s = v) (hown : OwnI w base v l) (g c : Nat) (t : Int) (hx : a.eval x = .slice (some ⟨g, 0, none⟩) 1 c)
    (hg : w.heap[g]? = some (.cells #[.int .i64 t] 3 (0, 0))) (hl : l.length <= 100000) (hb : base <= w.heap.size)
    (h : ∀ v' w', OwnI w' base v' (l ++ [t]) -> w.grownBy w' v.ownBlock -> wpList Tryz.prog ops Q rest (a.put o.dst v') w') : wpList Tryz.prog ops Q (o :: rest) a w := by
  obtain ⟨i0, hi0, hz0, hzs, hzb⟩ := info_parts int_info
  refine wpList_append_own w hgd s x 38 ho base 3 i0 _ 1 8 Tryz.underlying38 hi0 hz0 hzs hzb rfl (by decide) v l.length _ hs hown ⟨g, 0, none⟩ 1 c [.int .i64 t] hx rfl (news_row hg (by simp [Value.oneCell'])) (by simp [Value.oneCell']) (by unfold maxLen; omega) (by omega) hb fun v' w' ho' hg' _ => ?_
  exact h v' w' (by unfold OwnI; rw [List.map_append, List.length_append]; exact ho') hg'
end
section
variable {w w' : World} {base : Nat} {v : Value}
theorem OwnS.alloc {l : Prof} (h : OwnS w base v l) (ob : Obj) : OwnS (w.alloc ob) base v l := World.ownsRow.alloc h ob
theorem OwnI.alloc {l : List Int} (h : OwnI w base v l) (ob : Obj) : OwnI (w.alloc ob) base v l := World.ownsRow.alloc h ob
theorem OwnS.nil (w : World) (base : Nat) : OwnS w base (.slice none 0 0) [] := ⟨rfl, .inl ⟨rfl, rfl⟩⟩
theorem OwnI.nil (w : World) (base : Nat) : OwnI w base (.slice none 0 0) [] := ⟨rfl, .inl ⟨rfl, rfl⟩⟩
theorem OwnS.below {l : Prof} (h : OwnS w base v l) (hb : Below w.heap.size w w') : OwnS w' base v l := oBl h hb
theorem OwnI.below {l : List Int} (h : OwnI w base v l) (hb : Below w.heap.size w w') : OwnI w' base v l := oBl h hb
theorem grown_below {B : Nat} {a : World} {e size n : Nat} {xs : List Value} (hb : Below B a w) (hg : w.grownBy w' v.ownBlock) (ho : w.ownsRow base e size v n xs) (h1 : B <= base) (h2 : B <= w.heap.size) : Below B a w' :=
  hb.grown hg h2 fun k hk => Nat.le_trans h1 (oBk ho k hk)
end
theorem run_append_nothing {P : Program} {w : World} (base : Nat) (t ty e : TypeId) (i : TypeInfo) (size : Nat) (ht : P.underlying t = some (.slice e)) (hi : P.info? e = some i)
    (v : Value) (n : Nat) (xs : List Value) (hown : w.ownsRow base e size v n xs) (c : Nat) : (Builtin.append_ #[t, t] ty #[v, .slice none 0 c]).run P w = .ok v w := by
  rcases hown.2 with ⟨rfl, rfl⟩ | ⟨g, cap, cur, rfl, _, hg, hnc, _⟩
  · simp [Builtin.append_, run_underlying ht, sizeOf, typeInfo, hi, Builtin.lenOf, Builtin.firstCells]
  · simp [Builtin.append_, run_underlying ht, sizeOf, typeInfo, hi, Builtin.lenOf, Builtin.firstCells, hnc, storeCells]
theorem wpList_append_copy {P : Program} {ops : Array Oper} {rest : List Oper} {o : Oper} {a : Act} {w : World} {Q : Exit -> Act -> World -> Prop} (hgd : o.guard = none) (s x : Operand) (t : TypeId) (ho : o.op = .call { callee := .builtin .append, args := #[s, x], argTypes := #[t, t] })
    (base : Nat) (e : TypeId) (i : TypeInfo) (z : Value) (size bytes : Nat) (ht : P.underlying t = some (.slice e)) (hi : P.info? e = some i) (hz : i.zero = some z)
    (hsize : i.size = size) (hby : i.bytes = bytes) (hzs : z.cells.size = size) (hsz : 0 < size) (hs : a.eval s = .slice none 0 0)
    (A : Option Addr) (n c : Nat) (xs : List Value) (hx : a.eval x = .slice A n c) (hsl : Sl w size A n xs) (h1 : ∀ u ∈ xs, u.oneCell' = true) (h63 : n <= maxLen) (hbytes : n * bytes <= 140737488355328) (hbase : base <= w.heap.size)
    (h : ∀ v' w', w'.ownsRow base e size v' n xs -> Below w.heap.size w w' -> wpList P ops Q rest (a.put o.dst v') w') : wpList P ops Q (o :: rest) a w := by
  have hown : w.ownsRow base e size (.slice none 0 0) 0 [] := ⟨by simp, .inl ⟨rfl, rfl⟩⟩
  cases A with
  | none =>
    have hn : n = 0 := by
      rcases Nat.eq_zero_or_pos n with h0 | h0
      · exact h0
      · obtain ⟨b, off, e, _⟩ := hsl.2 (Nat.mul_pos h0 hsz); cases e
    subst hn
    have hxs : xs = [] := List.eq_nil_of_length_eq_zero (by rw [hsl.1]; simp)
    subst hxs
    refine wpList_plain hgd fun K hK => ?_
    have hrun := run_append_nothing (P := P) (w := w) base t o.type e i size ht hi _ 0 [] hown c
    unfold Oper.wp
    simp [execOp, ho, resolve, invoke, builtin, hs, hx, hrun, Result.andThen]
    exact hK _ _ (h _ _ hown (Below.refl _ _))
  | some ad =>
    refine wpList_append_own w hgd s x t ho base e i z size bytes ht hi hz hsize hby hzs hsz _ 0 [] hs hown ad n c xs hx hsl.1 (fun j u hj => ?_) h1 (by omega) (by rw [Nat.zero_add]; exact hbytes) hbase fun v' w' ho' hg' _ => ?_
    · have hpos : 0 < n * size := by
        have := (List.getElem?_eq_some_iff.1 hj).1
        rw [hsl.1] at this; omega
      obtain ⟨b, off, e, _⟩ := hsl.2 hpos
      injection e with e
      subst e
      exact hsl.news j u hj
    · rw [Nat.zero_add, List.nil_append] at ho'
      exact h v' w' ho' ((Below.refl _ _).grown hg' (Nat.le_refl _) (fun k hk => by cases hk))
end Go.Proofs.YtifmdkcpbajdcabGreatDoor
namespace Go.Proofs.YtifmdkcpbajdcabGreatDoor
open Go.RowKit Go.Proofs Plain
def arr (fs : List Int) : Array Value := (fs.map (Value.int .i64)).toArray
theorem arr_size (fs : List Int) : (arr fs).size = fs.length := by simp [arr]
theorem arr_get (fs : List Int) (j : Nat) (h : j < fs.length) : (arr fs)[j]? = some (.int .i64 (fs.getD j 0)) := by
  simp [arr, List.getD_eq_getElem?_getD, List.getElem?_eq_getElem h]
theorem arr_set (fs : List Int) (j : Nat) (v : Int) : (arr fs).setIfInBounds j (.int .i64 v) = arr (fs.set j v) := by
  apply Array.ext'
  simp [arr, List.map_set]
theorem arr_one (fs : List Int) : (arr fs).all (·.oneCell') = true := by
  rw [Array.all_eq_true_iff_forall_mem]
  intro v hv
  simp only [arr, List.mem_toArray, List.mem_map] at hv
  obtain ⟨_, _, rfl⟩ := hv
  rfl
section
variable {w : World}
theorem setRow_size (w : World) (k : Nat) (cs : Array Value) : (w.setRow k cs).heap.size = w.heap.size := by simp [World.setRow]
end
structure OneRow (g : Nat) (w w' : World) : Prop where
  os : w'.os = w.os
  tape : w'.tape = w.tape
  output : w'.output = w.output
  size : w'.heap.size = w.heap.size
  block : ∀ k, k ≠ g -> w'.heap[k]? = w.heap[k]?
theorem OneRow.of_row (w : World) (g : Nat) (cs : Array Value) : OneRow g w (w.setRow g cs) :=
  ⟨rfl, rfl, rfl, setRow_size w g cs, fun k hk => by unfold World.setRow; simp only [Array.getElem?_modify]; rw [if_neg (fun e => hk e.symm)]⟩
theorem OneRow.of_cell (w : World) (p : Addr) (v : Value) : OneRow p.block w (w.setCell p v) :=
  ⟨rfl, rfl, rfl, by simp [World.setCell], fun k hk => Below.heap_setCell w p v k hk⟩
section
variable {g k n : Nat} {w w' a : World} {fs : List Int}
theorem OneRow.below (h : OneRow g w w') (hn : n <= g) : Below n w w' := ⟨h.os, h.tape, h.output, Nat.le_of_eq h.size.symm, fun i hi => h.block i (by omega)⟩
theorem OneRow.cell (h : OneRow g w w') (b o : Nat) (hk : b ≠ g) : w'.cell? ⟨b, o, none⟩ = w.cell? ⟨b, o, none⟩ := World.cell?_of_block (w := w) (h.block b hk)
theorem OneRow.frozen (h : OneRow g w w') (b o : Nat) (hk : b ≠ g) : w'.frozen? ⟨b, o, none⟩ = w.frozen? ⟨b, o, none⟩ := World.frozen?_of_block (w := w) (h.block b hk)
end
end Go.Proofs.YtifmdkcpbajdcabGreatDoor

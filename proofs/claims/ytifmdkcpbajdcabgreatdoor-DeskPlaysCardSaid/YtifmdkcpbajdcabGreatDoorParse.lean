/- Walks: the order of a line. -/
import Derived.Test.YtifmdkcpbajdcabGreatDoorLineLm
import Derived.BigQuiet
import Derived.BigRegion
import Derived.Deep.QuietTactic
import Derived.IntWalk
import Derived.Lib.AtoiAllCases
import Derived.Deep.RegionWith
import Derived.Deep.RegionHeld3
import Derived.Deep.DeepMust
import Derived.Deep.DeepCutAuto
set_option linter.unusedVariables false
set_option linter.unusedSimpArgs false
namespace Go.Proofs.YtifmdkcpbajdcabGreatDoor
open Go.RowKit Go.Proofs Plain
open Go.Act renaming put -> aP, eval -> aE
open Go.Lib renaming hid -> hd_
def RetParse (r : Option Order) (w : World) (e : Ending) (w' : World) : Prop :=
  e = .returned (.tuple #[.agg (ordA (oOf r)), .int .i64 (eOf r)]) /\ Below w.heap.size w w'
theorem order_size : (Tryz.prog.info? 41).map (·.size) = some 4 := by kernel_rfl
def OrdAt (w : World) (g : Nat) (o : Order) : Prop := w.heap[g]? = some (.cells (ordA o) 41 (0, 0))
section
variable {w w' : World} {g n : Nat} {o : Order}
theorem OrdAt.lt (h : OrdAt w g o) : g < w.heap.size := (Array.getElem?_eq_some_iff.1 h).1
theorem OrdAt.below (h : OrdAt w g o) (hb : Below n w w') (hn : g < n) : OrdAt w' g o := (hb.block g hn).trans h
theorem OrdAt.new (w : World) (o : Order) : OrdAt (w.alloc (.cells (ordA o) 41)) w.heap.size o := heap_alloc_new w _
theorem OrdAt.alloc (h : OrdAt w g o) (ob : Obj) : OrdAt (w.alloc ob) g o := (Below.heap_alloc w ob g h.lt).trans h
end
theorem OrdAt.cell0 {w : World} {g : Nat} {o : Order} (h : OrdAt w g o) : w.cell? ⟨g, 0, none⟩ = some (.int .i64 o.kind) := by rw [cell_of_row w g 0 _ _ _ h]; rfl
theorem OrdAt.facts {w : World} {g : Nat} {o : Order} (h : OrdAt w g o) : (w.frozen? ⟨g, 0, none⟩ = false /\ w.frozen? ⟨g, 1, none⟩ = false /\ w.frozen? ⟨g, 2, none⟩ = false /\ w.frozen? ⟨g, 3, none⟩ = false /\
    w.cell? ⟨g, 0, none⟩ = some (.int .i64 o.kind) /\ w.cell? ⟨g, 1, none⟩ = some (.int .i64 o.a) /\ w.cell? ⟨g, 2, none⟩ = some (.int .i64 o.b) /\ w.cell? ⟨g, 3, none⟩ = some (.int .i64 o.c)) := by
  have hf : ∀ j, w.frozen? ⟨g, j, none⟩ = false := fun j => by unfold OrdAt at h; simp [World.frozen?, h]
  have hc : ∀ j, w.cell? ⟨g, j, none⟩ = (ordA o)[j]? := fun j => cell_of_row w g j _ _ _ h
  exact ⟨hf 0, hf 1, hf 2, hf 3, hc 0, hc 1, hc 2, hc 3⟩
theorem OrdAt.put {w : World} {g : Nat} {o : Order} (h : OrdAt w g o) (j : Nat) (v : Value) (q : Order) (hq : (ordA o).setIfInBounds j v = ordA q) : OrdAt (w.setCell ⟨g, j, none⟩ v) g q := by
  unfold OrdAt
  rw [setCell_eq_setRow w g j _ _ _ _ h, hq]
  exact setRow_heap w g _ _ _ _ h
theorem OrdAt.beside {w : World} {g : Nat} {o : Order} (h : OrdAt w g o) (p : Addr) (v : Value) (hp : p.block ≠ g) : OrdAt (w.setCell p v) g o := (Below.heap_setCell w p v g (fun e => hp e.symm)).trans h
theorem rOr {fn : Func} {t u : Tmp} (h : fn.results = #[.cell t 41, .tmp u]) (tmps : Array Value) (w : World) (g : Nat) {o : Order}
    (hp : tmps.getD t undef = .pointer (some ⟨g, 0, none⟩)) (hf : OrdAt w g o) : (results fn tmps).run Tryz.prog w = .ok (.tuple #[.agg (ordA o), tmps.getD u undef]) w := by
  rw [results_cell_tmp h, hp]
  simp [asAddr, run_loadVar_row w g 41 41 (ordA o) (0, 0) _ hf Tryz.underlying41 rfl order_size, Result.andThen]
theorem hasword_is (b off c : Nat) (x : ByteArray) (w : World) {q : Bool} (hq : isWord x.data.toList = q) (hc : ∀ j, j < 15 -> w.cell? ⟨b, off + j, none⟩ = some (.string (bs (wordsL.getD j [])))) :
    Calls Tryz.prog 35 #[.slice (some ⟨b, off + 1, none⟩) 14 c, .string x] w fun e w' => e = .returned (.bool q) /\ w' = w := by
  subst hq; exact hasword_any b off c x w hc
theorem parse_word {t : Txt} {r : List Txt} (h : isWord t = false) : parseT (t :: r) = none := by
  unfold parseT
  dsimp only
  rw [if_neg]
  rintro ⟨h1, h2, _⟩
  simp only [isWord, Bool.and_eq_false_iff, decide_eq_false_iff_not] at h
  omega
theorem parse_kind {t : Txt} {r : List Txt} (h : isWord t = true) : parseT (t :: r) = if r.length = countsL.getD (kindOf t) 0 then (numsOf r).map (orderOf (kindOf t)) else none := by
  simp only [isWord, Bool.and_eq_true, decide_eq_true_eq] at h
  unfold parseT
  dsimp only
  by_cases c : r.length = countsL.getD (kindOf t) 0
  · rw [if_pos ⟨h.1, h.2, c⟩, if_pos c]
  · rw [if_neg (fun q => c q.2.2), if_neg c]
theorem own_cap {w : World} {base c n : Nat} {A : Option Addr} {T : TypeId} {size : Nat} {xs : List Value} (h : w.ownsRow base T size (.slice A n c) n xs) : n <= c := by
  rcases h.2 with ⟨hv, hn⟩ | ⟨g, cap, cur, hv, _, _, hn, _⟩
  · injection hv with _ h1 h2; omega
  · injection hv with _ h1 h2; omega
theorem toksGo_size : ∀ (s acc : Txt), ∀ w ∈ toksGo acc s, w.length <= acc.length + s.length
  | [], acc, w, hw => by
    rw [toksGo] at hw
    split at hw
    · cases hw
    · simp at hw; subst hw; simp
  | c :: r, acc, w, hw => by
    rw [toksGo] at hw
    split at hw
    · split at hw
      · have := toksGo_size r [] w hw; simp at this ⊢; omega
      · rcases List.mem_cons.1 hw with rfl | hw
        · omega
        · have := toksGo_size r [] w hw; simp at this ⊢; omega
    · have := toksGo_size r (acc ++ [c]) w hw; simp at this ⊢; omega
theorem tok_size {s y : ByteArray} (h : y ∈ toksB s) : y.size <= s.size := by
  have hm : y.data.toList ∈ toks s.data.toList := by rw [<- toks_bytes]; exact List.mem_map.2 ⟨y, h, rfl⟩
  have := toksGo_size s.data.toList [] y.data.toList hm
  simpa using this
theorem numsOf_snoc : ∀ (l : List Txt) (ns : List Int) (t : Txt) (v : Int), numsOf l = some ns -> numOf t = some v -> numsOf (l ++ [t]) = some (ns ++ [v])
  | [], ns, t, v, h, hv => by
    simp only [numsOf, Option.some.injEq] at h; subst h
    simp [numsOf, hv]
  | x :: r, ns, t, v, h, hv => by
    rw [numsOf] at h
    split at h
    · rename_i a l h1 h2
      injection h with h; subst h
      rw [List.cons_append, numsOf, h1, numsOf_snoc r l t v h2 hv]; rfl
    · cases h
theorem numOf_noval {t : Txt} (h : ∀ v, Lib.atoiAll t ≠ .ok v) : numOf t = none := by
  unfold numOf
  split
  · rename_i v hv; exact absurd hv (h v)
  · rfl
theorem numOf_off {t : Txt} {v : Int} (h : Lib.atoiAll t = .ok v) (h2 : ¬ (Lib.itoa v = t /\ inLim v = true)) : numOf t = none := by
  unfold numOf; rw [h]; dsimp only; rw [if_neg h2]
theorem numsOf_none : ∀ (l : List Txt) (k : Nat), k < l.length -> numOf (l.getD k []) = none -> numsOf l = none
  | [], k, h, _ => absurd h (by simp)
  | x :: r, 0, _, hn => by rw [List.getD_cons_zero] at hn; rw [numsOf, hn]
  | x :: r, k + 1, h, hn => by
    rw [List.getD_cons_succ] at hn
    rw [numsOf, numsOf_none r k (by simpa using h) hn]
    cases numOf x <;> rfl
def ar3 (ns : List Int) : Array Value := #[.int .i64 (ns.getD 0 0), .int .i64 (ns.getD 1 0), .int .i64 (ns.getD 2 0)]
theorem ar3_set (ns : List Int) (v : Int) (h : ns.length < 3) : (ar3 ns).setIfInBounds ns.length (.int .i64 v) = ar3 (ns ++ [v]) := by
  match ns, h with
  | [], _ => rfl
  | [_], _ => rfl
  | [_, _], _ => rfl
def Ar3 (w : World) (g : Nat) (ns : List Int) : Prop := w.heap[g]? = some (.cells (ar3 ns) 80 (0, 0))
theorem Ar3.cell {w : World} {g k : Nat} {ns : List Int} (h : Ar3 w g ns) (_hn : ns.length = k) (hk : k < 3) : w.cell? ⟨g, k, none⟩ = some (.int .i64 (ns.getD k 0)) := by
  rw [cell_of_row w g k _ _ _ h]
  match k, hk with
  | 0, _ => rfl
  | 1, _ => rfl
  | 2, _ => rfl
theorem Ar3.frozen {w : World} {g : Nat} {ns : List Int} (h : Ar3 w g ns) (k : Nat) : w.frozen? ⟨g, k, none⟩ = false := by
  unfold Ar3 at h; simp [World.frozen?, h]
theorem Ar3.set {w : World} {g k : Nat} {ns : List Int} (h : Ar3 w g ns) (hn : ns.length = k) (hk : k < 3) (v : Int) : Ar3 (w.setCell ⟨g, k, none⟩ (.int .i64 v)) g (ns ++ [v]) := by
  subst hn
  unfold Ar3
  rw [setCell_eq_setRow w g ns.length _ _ _ _ h, ar3_set ns v hk]
  exact setRow_heap w g _ _ _ _ h
theorem setRow_line (w : World) (g : Nat) (cs : Array Value) : Below g w (w.setRow g cs) :=
  ⟨rfl, rfl, rfl, by simp [World.setRow], fun i hi => by unfold World.setRow; simp only [Array.getElem?_modify]; rw [if_neg (by omega)]⟩
section
variable {ops : Array Oper} {rest : List Oper} {o : Oper} {a : Act} {w : World} {Q : Exit -> Act -> World -> Prop}
theorem wSO {x y : Operand} {g : Nat} {p q : Order} (hg : o.guard = none) (ho : o.op = .store 41 x y)
    (hx : a.eval x = .pointer (some ⟨g, 0, none⟩)) (hy : a.eval y = .agg (ordA q)) (hf : OrdAt w g p)
    (h : ∀ w', OrdAt w' g q -> Below g w w' -> wpList Tryz.prog ops Q rest (a.put o.dst undef) w') : wpList Tryz.prog ops Q (o :: rest) a w :=
  have h := h _ (setRow_heap w g _ (ordA q) _ _ hf) (setRow_line w g _)
  wpList_store_row hg _ x y ho g _ hx hy _ _ hf order_size rfl (by simp [ordA, Value.oneCell']) h
theorem wpList_load_ord {x : Operand} {g : Nat} {p : Order} (hg : o.guard = none) (ho : o.op = .load 41 x)
    (hx : a.eval x = .pointer (some ⟨g, 0, none⟩)) (hf : OrdAt w g p)
    (h : wpList Tryz.prog ops Q rest (a.put o.dst (.agg (ordA p))) w) : wpList Tryz.prog ops Q (o :: rest) a w :=
  wpList_load_row hg _ x ho g hx _ _ _ _ hf Tryz.underlying41 rfl order_size h
end
theorem parse_toks {s : ByteArray} {L : List ByteArray} (h : s.size <= 60) (hL : toksB s = L) : parseL s.data.toList = parseT (L.map (·.data.toList)) := by
  subst hL
  rw [toks_bytes, parseL, if_neg (by rw [Array.length_toList]; exact Nat.not_lt.2 h)]
theorem below_drawn {B : Nat} {a w : World} (h : Below B a w) (n : Nat) : Below B a (w.drewN n) := ⟨h.os, h.tape, h.output, h.size, h.block⟩
theorem parse_long {t : Txt} (h : 60 < t.length) : parseL t = none := by unfold parseL; rw [if_pos h]
set_option maxRecDepth 100000 in
set_option maxHeartbeats 16000000 in
theorem parse_any (B : Nat) (s : ByteArray) (w : World) (hL : LineAt B w) (hs : s.size <= maxLen) :
    Calls Tryz.prog 14 #[.string s] w (RetParse (parseL s.data.toList) w) := by
  unfold maxLen at hs
  by_cases h60 : 60 < s.size
  · rw [parse_long (by rw [Array.length_toList]; exact h60)]
    go_enter Tryz.func14, Tryz.ntmps14
    go_wp2_with fail
    refine bodyPost_ret (rOr rfl _ _ w.heap.size rfl (OrdAt.new w noO)) rfl ?_
    exact ⟨rfl, (Below.refl _ _).alloc (Nat.le_refl _) _⟩
  · have hB0 : Below w.heap.size w (w.alloc (.cells (ordA noO) 41)) := (Below.refl _ _).alloc (Nat.le_refl _) _
    have hO0 := OrdAt.new w noO
    have hL0 := hL.below (hB0.mono hL.size)
    have hBs := hL.size
    clear hL
    obtain ⟨ans, hans⟩ : ∃ ans, parseL s.data.toList = ans := ⟨_, rfl⟩
    rw [hans]
    have HA := hd_ hans
    clear hans
    simp only [ordA, noO] at hB0 hO0 hL0
    go_enter Tryz.func14, Tryz.ntmps14
    go_wp2_with (go_at_call 34; refine (splitT_any B s _ hL0 (by omega)).mono ?_; rintro e w1 ⟨A1, c1, rfl, hs1, hb1⟩)
    have hz1 := hb1.size
    have hO1 := hO0.below hb1 hO0.lt
    have hL1 := hL0.below (hb1.mono hL0.size)
    have hB1 := bLn hB0 hb1
    have hpl := pieces_len s
    clear hO0 hL0 hB0 hb1
    go_loopw [4, 20] (fun l i wr => ∃ k : Nat, k <= (pieces s).length /\ i = .int .i64 k /\ OwnT wr w1.heap.size l (((pieces s).take k).filter full) /\ Below w1.heap.size w1 wr) (fun _ i _ => (pieces s).length - (intOf i).toNat)
    case atStart => exact ⟨0, Nat.zero_le _, rfl, ⟨by simp [strV], .inl ⟨rfl, rfl⟩⟩, Below.refl _ _⟩
    case round =>
      obtain ⟨k, hk, rfl, hown, hB⟩ := hrel
      by_cases hlt : k < (pieces s).length
      · obtain ⟨b, off, hA, hbl, hc⟩ := str_at hs1 (by omega)
        subst hA
        have hx := (hB.cell (p := ⟨b, off + k, none⟩) hbl).trans (hc k hlt)
        have HT := hd_ (List.take_succ_eq_append_getElem hlt)
        have hxe : (pieces s)[k] = (pieces s).getD k ByteArray.empty := by rw [List.getD_eq_getElem?_getD, List.getElem?_eq_getElem hlt]; rfl
        rw [hxe] at HT
        have hll : (((pieces s).take k).filter full).length <= k := Nat.le_trans (List.length_filter_le _ _) (List.length_take_le _ _)
        have HF := hd_ (show full ((pieces s).getD k ByteArray.empty) = !((pieces s).getD k ByteArray.empty).toList.isEmpty from rfl)
        have hzr := hB.size
        clear hc hxe
        generalize (pieces s).getD k ByteArray.empty = x at *
        by_cases hf : x.toList.isEmpty = true
        · have hf2 : (!x.toList.isEmpty) = false := by rw [hf]; rfl
          have HM := hd_ (show ((pieces s).take (k + 1)).filter full = ((pieces s).take k).filter full by rw [HT.out, List.filter_append, List.filter_cons, HF.out, hf2]; simp)
          clear HT HF
          go_wp2_with fail
          go_roundw
          case rel => exact ⟨k + 1, by omega, by go_num, by rw [HM.out]; exact hown, hB⟩
          case measure => simp [intOf] <;> omega
        · have hf' : x.toList.isEmpty = false := by simpa using hf
          have hf2 : (!x.toList.isEmpty) = true := by rw [hf']; rfl
          have HM := hd_ (show ((pieces s).take (k + 1)).filter full = ((pieces s).take k).filter full ++ [x] by rw [HT.out, List.filter_append, List.filter_cons, HF.out, hf2]; rfl)
          clear HT HF hf
          have ho1 := World.ownsRow.alloc hown (.cells #[.string x] 9)
          go_wp2_with (at_builtin; refine wpList_append_str rfl _ _ rfl w1.heap.size _ _ rfl ho1 wr.heap.size 1 x rfl (heap_alloc_new wr _) (by omega) (by simp; omega) ?_; intro v' w2 ho2 hg2)
          go_roundw
          case rel =>
            refine ⟨k + 1, by omega, by go_num, by rw [HM.out]; exact ho2, (hB.alloc hB.size _).grown hg2 (by simp; omega) fun b hb => own_blockT ho1 b hb⟩
          case measure => simp [intOf] <;> omega
      · obtain rfl : k = (pieces s).length := by omega
        rw [List.take_of_length_le (Nat.le_refl _)] at hown
        change OwnT wr w1.heap.size _ (toksB s) at hown
        have hLw : (toksB s).length <= 61 := by
          have : (toksB s).length <= (pieces s).length := List.length_filter_le _ _
          omega
        obtain ⟨L, hLe⟩ : ∃ L, toksB s = L := ⟨_, rfl⟩
        rw [hLe] at hown hLw
        have HP := hd_ (show ans = parseT (L.map (·.data.toList)) by rw [<- HA.out]; exact parse_toks (Nat.not_lt.1 h60) hLe)
        clear HA
        have hLr := hL1.below (hB.mono hL1.size)
        have hO := hO1.below hB (by have := hO1.lt; omega)
        have hBr := bLn hB1 hB
        obtain ⟨A3, c3, hv⟩ := own_form hown
        subst hv
        have hS : StrAt wr A3 L := Sl.of_own hown
        have hcap := own_cap hown
        have HSZ := hd_ (show ∀ y ∈ L, y.size <= 60 from fun y hy => by rw [<- hLe] at hy; have := tok_size hy; omega)
        clear hown hB hs1 hL1 hO1 hLe hk hlt hpl hB1
        cases L with
        | nil =>
          simp only [List.length_nil] at hS ⊢
          go_wp2_with fail
          go_quiet (fail)
          go_wp2_with (refine wSO (q := noO) rfl rfl (by first | rfl | simp [aE, aP]) (by first | rfl | simp [aE, aP]) hO ?_; intro w3 hO3 hb3)
          refine bodyPost_ret (rOr rfl _ _ w.heap.size rfl hO3) rfl ?_
          rw [HP.out]
          exact ⟨rfl, (below_drawn hBr nq).trans hb3⟩
        | cons x r =>
          obtain ⟨b, off, c, hw1, hw2, hw3, hw4⟩ := hLr.words
          obtain ⟨b3, off3, hA3, hbl3, hc3⟩ := str_at hS (by simp)
          subst hA3
          have hx : wr.cell? ⟨b3, off3, none⟩ = some (.string x) := hc3 0 (by simp)
          have hw0 : ((r.length : Int) + 1 == 0) = false := by simp; omega
          have hc1 : ¬ c = 1 := by omega
          cases hwd : isWord x.data.toList with
          | false =>
            have HW := hd_ hwd
            clear hwd
            go_wp2_with fail
            go_quiet ((go_at_call 35; exact Calls.quiet_of_same (hasword_is b off _ x _ HW.out hw4)))
            go_wp2_with (refine wSO (q := noO) rfl rfl (by first | rfl | simp [aE, aP]) (by first | rfl | simp [aE, aP]) hO ?_; intro w3 hO3 hb3)
            refine bodyPost_ret (rOr rfl _ _ w.heap.size rfl hO3) rfl ?_
            rw [HP.out, List.map_cons, parse_word HW.out]
            exact ⟨rfl, (below_drawn hBr nq).trans hb3⟩
          | true =>
            have HW := hd_ hwd
            clear hwd
            go_wp2_with fail
            go_quiet ((go_at_call 35; exact Calls.quiet_of_same (hasword_is b off _ x _ HW.out hw4)))
            go_wp2_with fail
            obtain ⟨wq, hq⟩ : ∃ wq, wr.drewN nq = wq := ⟨_, rfl⟩
            have hLq : LineAt B wq := by rw [<- hq]; exact hLr.below (below_drawn (Below.refl _ _) nq)
            have hBq : Below w.heap.size w wq := by rw [<- hq]; exact below_drawn hBr nq
            have hOq : OrdAt wq w.heap.size noO := by rw [<- hq]; exact hO
            have hSq : StrAt wq (some ⟨b3, off3, none⟩) (x :: r) := by rw [<- hq]; exact hS
            rw [hq]
            clear hw1 hw3 hw4 hx hc3 hbl3 hS hLr hO hBr hq
            obtain ⟨b, off, c, hw1, hw2, hw3, hw4⟩ := hLq.words
            obtain ⟨b4, off4, hA3, hbl3, hc3⟩ := str_at hSq (by simp)
            cases hA3
            have hx : wq.cell? ⟨b3, off3, none⟩ = some (.string x) := hc3 0 (by simp)
            have hLs := hLq.size
            clear hc3
            go_region_held3 (fun w' => w'.cell? ⟨0, 0, none⟩ = some (.slice (some ⟨b, off, none⟩) 15 c) /\ w'.cell? ⟨b3, off3, none⟩ = some (.string x)) (go_keep)
              ((go_at_call 36; refine (kind_any b off _ x _ HW.out (fun j hj => by first | exact hw4 j hj | exact (World.cell?_alloc_lt _ _ _ (by simp; omega)).trans (hw4 j hj))).mono ?_; rintro e w' ⟨rfl, rfl⟩))
            all_goals
              obtain ⟨wz, hz⟩ : ∃ wz, wz = (wq.alloc (.cells #[.int .i64 (kindOf x.data.toList : Nat), .int .i64 0, .int .i64 0, .int .i64 0] 41)).drew := ⟨_, rfl⟩
              rw [<- hz]
              have hDz : Below wq.heap.size wq wz := by
                rw [hz]
                have h := (Below.refl wq.heap.size wq).alloc (Nat.le_refl _) (.cells #[.int .i64 (kindOf x.data.toList : Nat), .int .i64 0, .int .i64 0, .int .i64 0] 41)
                exact ⟨h.os, h.tape, h.output, h.size, h.block⟩
              have hKz : OrdAt wz wq.heap.size ⟨(kindOf x.data.toList : Nat), 0, 0, 0⟩ := by rw [hz]; exact OrdAt.new wq ⟨(kindOf x.data.toList : Nat), 0, 0, 0⟩
              have hLz := hLq.below (hDz.mono hLq.size)
              have hBz := bLn hBq hDz
              have hOz := hOq.below hDz hOq.lt
              have hSz : StrAt wz (some ⟨b3, off3, none⟩) (x :: r) := Sl.below hSq hDz
              have hgo := hOq.lt
              have hwk := HW.out
              have HPK := hd_ (parse_kind (r := r.map (·.data.toList)) HW.out)
              simp only [isWord, Bool.and_eq_true, decide_eq_true_eq] at hwk
              generalize kindOf x.data.toList = K at *
              clear hw1 hw2 hw3 hw4 hx hbl3 hLq hBq hOq hSq hDz hz hw0 hc1
              have hk0 := hKz.cell0
              have hcn := hLz.counts K (by omega)
              have hC3 := counts_le K (by omega)
              generalize countsL.getD K 0 = C at *
              have hr60 : r.length <= 60 := by simpa using hLw
              have hcap' : r.length + 1 <= c3 := by simpa using hcap
              by_cases hn : r.length = C
              · have hn1 : ((r.length : Int) != (C : Int)) = false := by simp [hn]
                have hcells : ∀ j, j < r.length -> wz.cell? ⟨b3, off3 + 1 + j, none⟩ = some (.string (r.getD j ByteArray.empty)) := by
                  obtain ⟨b4, off4, hA4, _, hc4⟩ := str_at hSz (by simp)
                  cases hA4
                  intro j hj
                  have := hc4 (j + 1) (by simpa using hj)
                  rw [List.getD_cons_succ] at this
                  rw [Nat.add_assoc, Nat.add_comm 1 j]; exact this
                have hHY := HSZ.out
                have HY := hd_ (show ∀ j, j < r.length -> (r.getD j ByteArray.empty).size <= 60 from fun j hj => hHY _ (List.mem_cons_of_mem _ (by rw [List.getD_eq_getElem?_getD, List.getElem?_eq_getElem hj]; exact List.getElem_mem hj)))
                have HCL := hd_ hcells
                have hzz : w.heap.size < wz.heap.size /\ wq.heap.size < wz.heap.size := ⟨hOz.lt, hKz.lt⟩
                have h3r : r.length <= 3 := by omega
                have hb3lt : b3 < wz.heap.size := by
                  obtain ⟨b4, off4, hA4, hlt4, _⟩ := str_at hSz (by simp)
                  cases hA4; exact hlt4
                clear hcap hLw hcells hHY HSZ
                have HC := hd_ hn
                clear hn
                by_cases hc31 : c3 = 1
                · have hc31' : c3 = 1 -> r.length = 0 := fun h => by omega
                  go_wp2_with fail
                  clear hcn hk0 hn1
                  go_loopw [62] (fun i wr => ∃ (k : Nat) (ns : List Int), k <= r.length /\ i = .int .i64 k /\ ns.length = k /\ numsOf ((r.map (·.data.toList)).take k) = some ns /\ Ar3 wr wz.heap.size ns /\ Below wz.heap.size wz wr) (fun i _ => r.length - (intOf i).toNat)
                  case atStart => exact ⟨0, [], Nat.zero_le _, rfl, rfl, rfl, heap_alloc_new wz _, (Below.refl _ _).alloc (Nat.le_refl _) _⟩
                  case round =>
                    obtain ⟨k, ns, hk, rfl, hnl, hnum, hA3, hB⟩ := hrel
                    have HN := hd_ hnum
                    have HNL := hd_ hnl
                    clear hnum hnl
                    by_cases hlt : k < r.length
                    · exfalso; omega
                    · obtain rfl : k = r.length := by omega
                      have hBr := bLn hBz hB
                      have hOr := hOz.below hB hzz.1
                      have hKr := hKz.below hB hzz.2
                      have HFIN := hd_ (show ans = some ⟨K, ns.getD 0 0, ns.getD 1 0, ns.getD 2 0⟩ by
                        rw [List.take_of_length_le (by simp)] at HN
                        rw [HP.out, List.map_cons, HPK.out, if_pos (by rw [List.length_map]; exact HC.out), HN.out]; rfl)
                      have e0 : wr.cell? ⟨wz.heap.size, 0, none⟩ = some (.int .i64 (ns.getD 0 0)) := by rw [cell_of_row wr _ 0 _ _ _ hA3]; rfl
                      have e1 : wr.cell? ⟨wz.heap.size, 1, none⟩ = some (.int .i64 (ns.getD 1 0)) := by rw [cell_of_row wr _ 1 _ _ _ hA3]; rfl
                      have e2 : wr.cell? ⟨wz.heap.size, 2, none⟩ = some (.int .i64 (ns.getD 2 0)) := by rw [cell_of_row wr _ 2 _ _ _ hA3]; rfl
                      generalize ns.getD 0 0 = n0 at *
                      generalize ns.getD 1 0 = n1 at *
                      generalize ns.getD 2 0 = n2 at *
                      clear HN HNL HY HCL hA3 HP HPK
                      obtain ⟨f0, f1, f2, f3, d0, d1, d2, d3⟩ := hKr.facts
                      have hne : wq.heap.size ≠ wz.heap.size := by omega
                      have hwo : ∀ W, W.heap[wq.heap.size]? = some (.cells (ordA ⟨K, n0, n1, n2⟩) 41 (0, 0)) -> OrdAt W wq.heap.size ⟨K, n0, n1, n2⟩ := fun _ h => h
                      have HKR := hd_ hKr
                      have HOR := hd_ hOr
                      have HBR := hd_ hBr
                      clear hKr hOr hBr hwo
                      go_wp2_with fail
                      go_region
                      all_goals
                        have hKf : OrdAt (((wr.setCell ⟨wq.heap.size, 1, none⟩ (.int .i64 n0)).setCell ⟨wq.heap.size, 2, none⟩ (.int .i64 n1)).setCell ⟨wq.heap.size, 3, none⟩ (.int .i64 n2)).drew wq.heap.size ⟨K, n0, n1, n2⟩ :=
                          ((HKR.out.put 1 (.int .i64 n0) ⟨K, n0, 0, 0⟩ rfl).put 2 (.int .i64 n1) ⟨K, n0, n1, 0⟩ rfl).put 3 (.int .i64 n2) ⟨K, n0, n1, n2⟩ rfl
                        have hOf : OrdAt (((wr.setCell ⟨wq.heap.size, 1, none⟩ (.int .i64 n0)).setCell ⟨wq.heap.size, 2, none⟩ (.int .i64 n1)).setCell ⟨wq.heap.size, 3, none⟩ (.int .i64 n2)).drew w.heap.size noO :=
                          ((HOR.out.beside ⟨wq.heap.size, 1, none⟩ (.int .i64 n0) (by simp; omega)).beside ⟨wq.heap.size, 2, none⟩ (.int .i64 n1) (by simp; omega)).beside ⟨wq.heap.size, 3, none⟩ (.int .i64 n2) (by simp; omega)
                        have hBf : Below w.heap.size w (((wr.setCell ⟨wq.heap.size, 1, none⟩ (.int .i64 n0)).setCell ⟨wq.heap.size, 2, none⟩ (.int .i64 n1)).setCell ⟨wq.heap.size, 3, none⟩ (.int .i64 n2)).drew := by
                          have h := ((HBR.out.setCell (p := ⟨wq.heap.size, 1, none⟩) (Nat.le_of_lt hgo) (.int .i64 n0)).setCell (p := ⟨wq.heap.size, 2, none⟩) (Nat.le_of_lt hgo) (.int .i64 n1)).setCell (p := ⟨wq.heap.size, 3, none⟩) (Nat.le_of_lt hgo) (.int .i64 n2)
                          exact ⟨h.os, h.tape, h.output, h.size, h.block⟩
                        generalize (((wr.setCell ⟨wq.heap.size, 1, none⟩ (.int .i64 n0)).setCell ⟨wq.heap.size, 2, none⟩ (.int .i64 n1)).setCell ⟨wq.heap.size, 3, none⟩ (.int .i64 n2)).drew = wf at *
                        clear f0 f1 f2 f3 d0 d1 d2 d3 e0 e1 e2
                        go_wp2_with (first
                          | (refine wpList_load_ord rfl rfl (by first | rfl | simp [aE, aP]) hKf ?_)
                          | (refine wSO (q := ⟨K, n0, n1, n2⟩) rfl rfl (by first | rfl | simp [aE, aP]) (by first | rfl | simp [aE, aP]) hOf ?_; intro w7 hO7 hb7))
                        refine bodyPost_ret (rOr rfl _ _ w.heap.size rfl hO7) rfl ?_
                        rw [HFIN.out]
                        exact ⟨rfl, hBf.trans hb7⟩
                · have hc31' : c3 = 1 -> r.length = 0 := fun h => by omega
                  go_wp2_with fail
                  clear hcn hk0 hn1
                  go_loopw [62] (fun i wr => ∃ (k : Nat) (ns : List Int), k <= r.length /\ i = .int .i64 k /\ ns.length = k /\ numsOf ((r.map (·.data.toList)).take k) = some ns /\ Ar3 wr wz.heap.size ns /\ Below wz.heap.size wz wr) (fun i _ => r.length - (intOf i).toNat)
                  case atStart => exact ⟨0, [], Nat.zero_le _, rfl, rfl, rfl, heap_alloc_new wz _, (Below.refl _ _).alloc (Nat.le_refl _) _⟩
                  case round =>
                    obtain ⟨k, ns, hk, rfl, hnl, hnum, hA3, hB⟩ := hrel
                    have HN := hd_ hnum
                    have HNL := hd_ hnl
                    clear hnum hnl
                    by_cases hlt : k < r.length
                    · have hx := (hB.cell (p := ⟨b3, off3 + 1 + k, none⟩) hb3lt).trans (HCL.out k hlt)
                      have hy60 := HY.out k hlt
                      have hLr := hLz.below (hB.mono hLz.size)
                      have hOr := hOz.below hB hzz.1
                      have hBr := bLn hBz hB
                      have HT := hd_ (show (r.map (·.data.toList)).getD k [] = (r.getD k ByteArray.empty).data.toList by simp [List.getD_eq_getElem?_getD, List.getElem?_eq_getElem hlt])
                      have HTK := hd_ (show (r.map (·.data.toList)).take (k + 1) = (r.map (·.data.toList)).take k ++ [(r.getD k ByteArray.empty).data.toList] by
                        rw [<- HT.out, List.take_add_one, List.getD_eq_getElem?_getD, List.getElem?_eq_getElem (by simpa using hlt)]; rfl)
                      have HBAD := hd_ (fun (h : numOf (r.getD k ByteArray.empty).data.toList = none) => show ans = none by
                        rw [HP.out, List.map_cons, HPK.out, numsOf_none _ k (by simpa using hlt) (by rw [HT.out]; exact h)]; split <;> rfl)
                      clear HT
                      generalize r.getD k ByteArray.empty = y at *
                      have hy2 : y.toList = y.data.toList := ByteArray.toList_eq y
                      have HY2 := hd_ hy2
                      clear hy2
                      have hAlt : wz.heap.size < wr.heap.size := (Array.getElem?_eq_some_iff.1 hA3).1
                      have h3k : k < 3 := by omega
                      by_cases hok : ∃ v, Lib.atoiAll y.data.toList = .ok v
                      · obtain ⟨v, hq⟩ := hok
                        obtain ⟨hv0, hv1⟩ := Lib.atoiAll_bounds hq
                        have HQ := hd_ hq
                        clear hq
                        by_cases hi : Lib.itoa v = y.data.toList
                        · have hne : (bs (Lib.itoa v)).toList = y.toList := by rw [ByteArray.toList_eq, bs_list, HY2.out, hi]
                          by_cases lo : v < -1073741824
                          · have HNO := hd_ (HBAD.out (numOf_off HQ.out fun h => by have := h.2; simp only [inLim, Bool.and_eq_true, decide_eq_true_eq] at this; omega))
                            have hlo : decide (v < -1073741824) = true := by simpa using lo
                            clear HBAD hi
                            go_wp2_with (first
                              | (go_at_call 37; refine (atoi_ok B y v _ hLr hy60 HQ.out).mono ?_; rintro e w5 ⟨rfl, hb5⟩; have hL5 := hLr.below (hb5.mono hLr.size))
                              | (go_at_call 38; refine (itoa_any B v _ hL5 hv0 hv1).mono ?_; rintro e w6 ⟨rfl, hb6⟩; have hO6 := (hOr.below hb5 hOr.lt).below hb6 (Nat.lt_of_lt_of_le hOr.lt hb5.size); have hB6 := bLn (bLn hBr hb5) hb6)
                              | (refine wSO (q := noO) rfl rfl (by first | rfl | simp [aE, aP]) (by first | rfl | simp [aE, aP]) hO6 ?_; intro w7 hO7 hb7))
                            refine bodyPost_ret (rOr rfl _ _ w.heap.size rfl hO7) rfl ?_
                            rw [HNO.out]
                            exact ⟨rfl, hB6.trans hb7⟩
                          · have hlo : decide (v < -1073741824) = false := by simpa using lo
                            by_cases up : 1073741824 < v
                            · have HNO := hd_ (HBAD.out (numOf_off HQ.out fun h => by have := h.2; simp only [inLim, Bool.and_eq_true, decide_eq_true_eq] at this; omega))
                              have hup : decide (1073741824 < v) = true := by simpa using up
                              clear HBAD hi
                              go_wp2_with (first
                                | (go_at_call 37; refine (atoi_ok B y v _ hLr hy60 HQ.out).mono ?_; rintro e w5 ⟨rfl, hb5⟩; have hL5 := hLr.below (hb5.mono hLr.size))
                                | (go_at_call 38; refine (itoa_any B v _ hL5 hv0 hv1).mono ?_; rintro e w6 ⟨rfl, hb6⟩; have hO6 := (hOr.below hb5 hOr.lt).below hb6 (Nat.lt_of_lt_of_le hOr.lt hb5.size); have hB6 := bLn (bLn hBr hb5) hb6)
                                | (refine wSO (q := noO) rfl rfl (by first | rfl | simp [aE, aP]) (by first | rfl | simp [aE, aP]) hO6 ?_; intro w7 hO7 hb7))
                              refine bodyPost_ret (rOr rfl _ _ w.heap.size rfl hO7) rfl ?_
                              rw [HNO.out]
                              exact ⟨rfl, hB6.trans hb7⟩
                            · have hup : decide (1073741824 < v) = false := by simpa using up
                              have HNV := hd_ (show numOf y.data.toList = some v from (numOf_iff _ _).2 ⟨hi, by simp only [inLim, Bool.and_eq_true, decide_eq_true_eq]; omega⟩)
                              clear HBAD hi
                              go_wp2_with (first
                                | (go_at_call 37; refine (atoi_ok B y v _ hLr hy60 HQ.out).mono ?_; rintro e w5 ⟨rfl, hb5⟩; have hL5 := hLr.below (hb5.mono hLr.size))
                                | (go_at_call 38; refine (itoa_any B v _ hL5 hv0 hv1).mono ?_; rintro e w6 ⟨rfl, hb6⟩; have hA6 : Ar3 w6 wz.heap.size ns := ((hb5.trans (hb6.mono hb5.size)).block _ hAlt).trans hA3; have hc6 := hA6.cell HNL.out h3k; have hf6 := hA6.frozen k))
                              go_roundw
                              case rel =>
                                refine ⟨k + 1, ns ++ [v], by omega, by go_num, by rw [List.length_append, HNL.out]; rfl, by rw [HTK.out]; exact numsOf_snoc _ _ _ _ HN.out HNV.out, hA6.set HNL.out h3k v, ((hB.trans (hb5.mono hB.size)).trans (hb6.mono (Nat.le_trans hB.size hb5.size))).setCell (Nat.le_refl _) _⟩
                              case measure => simp [intOf] <;> omega
                        · have hne : ¬ (bs (Lib.itoa v)).toList = y.toList := by rw [ByteArray.toList_eq, bs_list, HY2.out]; exact hi
                          have HNO := hd_ (HBAD.out (numOf_off HQ.out fun h => hi h.1))
                          clear HBAD hi
                          go_wp2_with (first
                            | (go_at_call 37; refine (atoi_ok B y v _ hLr hy60 HQ.out).mono ?_; rintro e w5 ⟨rfl, hb5⟩; have hL5 := hLr.below (hb5.mono hLr.size))
                            | (go_at_call 38; refine (itoa_any B v _ hL5 hv0 hv1).mono ?_; rintro e w6 ⟨rfl, hb6⟩; have hO6 := (hOr.below hb5 hOr.lt).below hb6 (Nat.lt_of_lt_of_le hOr.lt hb5.size); have hB6 := bLn (bLn hBr hb5) hb6)
                            | (refine wSO (q := noO) rfl rfl (by first | rfl | simp [aE, aP]) (by first | rfl | simp [aE, aP]) hO6 ?_; intro w7 hO7 hb7))
                          refine bodyPost_ret (rOr rfl _ _ w.heap.size rfl hO7) rfl ?_
                          rw [HNO.out]
                          exact ⟨rfl, hB6.trans hb7⟩
                      · have HNK := hd_ (show ∀ v, Lib.atoiAll y.data.toList ≠ .ok v from fun v h => hok ⟨v, h⟩)
                        have HNO := hd_ (HBAD.out (numOf_noval HNK.out))
                        clear hok HBAD
                        go_wp2_with (first
                          | (go_at_call 37; refine (atoi_no B y _ hLr hy60 HNK.out).mono ?_; rintro e w6 ⟨v, t, p, rfl, hb6⟩; have hO6 := hOr.below hb6 hOr.lt; have hB6 := bLn hBr hb6)
                          | (refine wSO (q := noO) rfl rfl (by first | rfl | simp [aE, aP]) (by first | rfl | simp [aE, aP]) hO6 ?_; intro w7 hO7 hb7))
                        refine bodyPost_ret (rOr rfl _ _ w.heap.size rfl hO7) rfl ?_
                        rw [HNO.out]
                        exact ⟨rfl, hB6.trans hb7⟩
                    · obtain rfl : k = r.length := by omega
                      have hBr := bLn hBz hB
                      have hOr := hOz.below hB hzz.1
                      have hKr := hKz.below hB hzz.2
                      have HFIN := hd_ (show ans = some ⟨K, ns.getD 0 0, ns.getD 1 0, ns.getD 2 0⟩ by
                        rw [List.take_of_length_le (by simp)] at HN
                        rw [HP.out, List.map_cons, HPK.out, if_pos (by rw [List.length_map]; exact HC.out), HN.out]; rfl)
                      have e0 : wr.cell? ⟨wz.heap.size, 0, none⟩ = some (.int .i64 (ns.getD 0 0)) := by rw [cell_of_row wr _ 0 _ _ _ hA3]; rfl
                      have e1 : wr.cell? ⟨wz.heap.size, 1, none⟩ = some (.int .i64 (ns.getD 1 0)) := by rw [cell_of_row wr _ 1 _ _ _ hA3]; rfl
                      have e2 : wr.cell? ⟨wz.heap.size, 2, none⟩ = some (.int .i64 (ns.getD 2 0)) := by rw [cell_of_row wr _ 2 _ _ _ hA3]; rfl
                      generalize ns.getD 0 0 = n0 at *
                      generalize ns.getD 1 0 = n1 at *
                      generalize ns.getD 2 0 = n2 at *
                      clear HN HNL HY HCL hA3 HP HPK
                      obtain ⟨f0, f1, f2, f3, d0, d1, d2, d3⟩ := hKr.facts
                      have hne : wq.heap.size ≠ wz.heap.size := by omega
                      have hwo : ∀ W, W.heap[wq.heap.size]? = some (.cells (ordA ⟨K, n0, n1, n2⟩) 41 (0, 0)) -> OrdAt W wq.heap.size ⟨K, n0, n1, n2⟩ := fun _ h => h
                      have HKR := hd_ hKr
                      have HOR := hd_ hOr
                      have HBR := hd_ hBr
                      clear hKr hOr hBr hwo
                      go_wp2_with fail
                      go_region
                      all_goals
                        have hKf : OrdAt (((wr.setCell ⟨wq.heap.size, 1, none⟩ (.int .i64 n0)).setCell ⟨wq.heap.size, 2, none⟩ (.int .i64 n1)).setCell ⟨wq.heap.size, 3, none⟩ (.int .i64 n2)).drew wq.heap.size ⟨K, n0, n1, n2⟩ :=
                          ((HKR.out.put 1 (.int .i64 n0) ⟨K, n0, 0, 0⟩ rfl).put 2 (.int .i64 n1) ⟨K, n0, n1, 0⟩ rfl).put 3 (.int .i64 n2) ⟨K, n0, n1, n2⟩ rfl
                        have hOf : OrdAt (((wr.setCell ⟨wq.heap.size, 1, none⟩ (.int .i64 n0)).setCell ⟨wq.heap.size, 2, none⟩ (.int .i64 n1)).setCell ⟨wq.heap.size, 3, none⟩ (.int .i64 n2)).drew w.heap.size noO :=
                          ((HOR.out.beside ⟨wq.heap.size, 1, none⟩ (.int .i64 n0) (by simp; omega)).beside ⟨wq.heap.size, 2, none⟩ (.int .i64 n1) (by simp; omega)).beside ⟨wq.heap.size, 3, none⟩ (.int .i64 n2) (by simp; omega)
                        have hBf : Below w.heap.size w (((wr.setCell ⟨wq.heap.size, 1, none⟩ (.int .i64 n0)).setCell ⟨wq.heap.size, 2, none⟩ (.int .i64 n1)).setCell ⟨wq.heap.size, 3, none⟩ (.int .i64 n2)).drew := by
                          have h := ((HBR.out.setCell (p := ⟨wq.heap.size, 1, none⟩) (Nat.le_of_lt hgo) (.int .i64 n0)).setCell (p := ⟨wq.heap.size, 2, none⟩) (Nat.le_of_lt hgo) (.int .i64 n1)).setCell (p := ⟨wq.heap.size, 3, none⟩) (Nat.le_of_lt hgo) (.int .i64 n2)
                          exact ⟨h.os, h.tape, h.output, h.size, h.block⟩
                        generalize (((wr.setCell ⟨wq.heap.size, 1, none⟩ (.int .i64 n0)).setCell ⟨wq.heap.size, 2, none⟩ (.int .i64 n1)).setCell ⟨wq.heap.size, 3, none⟩ (.int .i64 n2)).drew = wf at *
                        clear f0 f1 f2 f3 d0 d1 d2 d3 e0 e1 e2
                        go_wp2_with (first
                          | (refine wpList_load_ord rfl rfl (by first | rfl | simp [aE, aP]) hKf ?_)
                          | (refine wSO (q := ⟨K, n0, n1, n2⟩) rfl rfl (by first | rfl | simp [aE, aP]) (by first | rfl | simp [aE, aP]) hOf ?_; intro w7 hO7 hb7))
                        refine bodyPost_ret (rOr rfl _ _ w.heap.size rfl hO7) rfl ?_
                        rw [HFIN.out]
                        exact ⟨rfl, hBf.trans hb7⟩
              · have hn1 : ((r.length : Int) != (C : Int)) = true := by simp; omega
                clear hcap hLw
                go_wp2_with (refine wSO (q := noO) rfl rfl (by first | rfl | simp [aE, aP]) (by first | rfl | simp [aE, aP]) hOz ?_; intro w3 hO3 hb3)
                refine bodyPost_ret (rOr rfl _ _ w.heap.size rfl hO3) rfl ?_
                rw [HP.out, List.map_cons, HPK.out, if_neg (by rw [List.length_map]; exact hn)]
                exact ⟨rfl, hBz.trans hb3⟩
end Go.Proofs.YtifmdkcpbajdcabGreatDoor

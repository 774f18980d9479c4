/- Words: texts in memory; the tables that reading a line leans on. -/
import Derived.Test.YtifmdkcpbajdcabGreatDoorWords
import Derived.Test.YtifmdkcpbajdcabGreatDoorPlain
import Derived.Test.YtifmdkcpbajdcabGreatDoorChecked
import Derived.WalkKit
import Derived.RowKit
import Derived.Below
import Derived.Laws.Rows
import Derived.Laws.Strings
import Derived.Laws.Tables
import Derived.Laws.ResultCell
import Derived.Laws.AppendOwn
import Derived.Lib.AppendIntMem
import Derived.Lib.SlicesS
import Derived.Lib.Split
import Derived.Lib.Hide
import Derived.Test.YtifmdkcpbajdcabGreatDoorShelf
import Derived.Lib.AtoiErrMem
set_option linter.unusedVariables false
set_option linter.unusedSimpArgs false
namespace Go.Proofs.YtifmdkcpbajdcabGreatDoor
open Go.RowKit Go.Proofs Plain
theorem bLn {a w w' : World} (h : Below a.heap.size a w) (h2 : Below w.heap.size w w') : Below a.heap.size a w' := h.trans (h2.mono h.size)
def bs (t : Txt) : ByteArray := ⟨t.toArray⟩
theorem bs_list (t : Txt) : (bs t).data.toList = t := by simp [bs]
theorem bs_back (s : ByteArray) : bs s.data.toList = s := by cases s; simp [bs]
theorem bs_inj {a b : Txt} (h : bs a = bs b) : a = b := by rw [<- bs_list a, h, bs_list]
theorem bytes_inj {a b : ByteArray} (h : a.data.toList = b.data.toList) : a = b := by rw [<- bs_back a, h, bs_back]
def pieces (s : ByteArray) : List ByteArray := Lib.splitB ⟨#[32]⟩ 0 (Lib.countB s ⟨#[32]⟩) s
def full (b : ByteArray) : Bool := !b.toList.isEmpty
def toksB (s : ByteArray) : List ByteArray := (pieces s).filter full
theorem pieces_len (s : ByteArray) : (pieces s).length <= s.size + 1 := by
  have h1 : 1 <= (⟨#[32]⟩ : ByteArray).size := Nat.le_refl _
  have h2 := Lib.splitB_all ⟨#[32]⟩ h1 0 _ s rfl
  have h3 := Lib.countB_le ⟨#[32]⟩ h1 s.size s (Nat.le_refl _)
  unfold pieces
  omega
theorem toks_bytes (s : ByteArray) : (toksB s).map (·.data.toList) = toks s.data.toList := by
  rw [<- toks_split _ s.data.toList (Nat.le_refl _)]
  have : Lib.split s.data.toList [32] = (pieces s).map (·.data.toList) := by
    unfold pieces Lib.split
    rw [Lib.splitB_data]
  rw [this, List.filter_map]
  unfold toksB
  congr 1
  exact List.filter_congr fun b _ => by show (!b.toList.isEmpty) = !b.data.toList.isEmpty; rw [ByteArray.toList_eq]
def strV (l : List ByteArray) : List Value := l.map Value.string
def StrAt (w : World) (A : Option Addr) (l : List ByteArray) : Prop := Sl w 1 A l.length (strV l)
theorem str_at {w : World} {A : Option Addr} {l : List ByteArray} (h : StrAt w A l) (hl : 0 < l.length) :
    ∃ b off, A = some ⟨b, off, none⟩ /\ b < w.heap.size /\ ∀ j, j < l.length -> w.cell? ⟨b, off + j, none⟩ = some (.string (l.getD j ByteArray.empty)) := by
  obtain ⟨b, off, e, hc⟩ := h.2 (by omega)
  obtain ⟨b', off', e', hlt⟩ := Sl.lt h (by omega)
  rw [e] at e'
  injection e' with e'
  injection e' with e1 e2
  subst e1
  refine ⟨b, off, e, hlt, fun j hj => ?_⟩
  rw [hc j (by omega), strV, List.getElem?_map, List.getElem?_eq_getElem hj, List.getD_eq_getElem?_getD, List.getElem?_eq_getElem hj]; rfl
def OwnT (w : World) (base : Nat) (v : Value) (l : List ByteArray) : Prop := w.ownsRow base 9 1 v l.length (strV l)
theorem str_info : (Tryz.prog.info? 9).map (fun i => (i.zero, i.size, i.bytes)) = some (some (.string ByteArray.empty), 1, 16) := by kernel_rfl
theorem own_blockT {w : World} {base e size n : Nat} {v : Value} {xs : List Value} (h : w.ownsRow base e size v n xs) : ∀ g, v.ownBlock = some g -> base <= g := by
  intro g hg
  rcases h.2 with ⟨hv, _⟩ | ⟨g', cap, cur, hv, hb, _⟩
  · rw [hv] at hg; cases hg
  · rw [hv] at hg; simp only [Value.ownBlock, Option.some.injEq] at hg; omega
section
variable {ops : Array Oper} {rest : List Oper} {o : Oper} {a : Act} {w : World} {Q : Exit -> Act -> World -> Prop}
theorem wpList_append_str (hgd : o.guard = none) (s x : Operand) (ho : o.op = .call { callee := .builtin .append, args := #[s, x], argTypes := #[22, 22] })
    (base : Nat) (v : Value) (l : List ByteArray) (hs : a.eval s = v) (hown : OwnT w base v l) (g c : Nat) (t : ByteArray) (hx : a.eval x = .slice (some ⟨g, 0, none⟩) 1 c)
    (hg : w.heap[g]? = some (.cells #[.string t] 9 (0, 0))) (hl : l.length <= 100000) (hb : base <= w.heap.size)
    (h : ∀ v' w', OwnT w' base v' (l ++ [t]) -> w.grownBy w' v.ownBlock -> wpList Tryz.prog ops Q rest (a.put o.dst v') w') : wpList Tryz.prog ops Q (o :: rest) a w := by
  obtain ⟨i0, hi0, hz0, hzs, hzb⟩ := info_parts str_info
  have hn : ∀ (j : Nat) u, ([.string t] : List Value)[j]? = some u -> w.cell? ((⟨g, 0, none⟩ : Addr).add j) = some u := by
    intro j u hj
    have : (⟨g, 0, none⟩ : Addr).add j = ⟨g, j, none⟩ := by unfold Addr.add; split <;> simp_all
    rw [this, cell_of_row w g j _ 9 (0, 0) hg]
    simpa using hj
  refine wpList_append_own w hgd s x 22 ho base 9 i0 _ 1 16 Tryz.underlying22 hi0 hz0 hzs hzb rfl (by decide) v l.length _ hs hown ⟨g, 0, none⟩ 1 c [.string t] hx rfl hn (by simp [Value.oneCell']) (by unfold maxLen; omega) (by omega) hb fun v' w' ho' hg' _ => ?_
  exact h v' w' (by unfold OwnT; rw [strV, List.map_append, List.length_append]; exact ho') hg'
end
structure LineAt (B : Nat) (w : World) : Prop where
  size : B <= w.heap.size
  low : 0 < B /\ 1 < B /\ 2 < B /\ 3 < B /\ 5 < B
  words : ∃ b off c, w.cell? ⟨0, 0, none⟩ = some (.slice (some ⟨b, off, none⟩) 15 c) /\ 15 <= c /\ b < B /\ ∀ j, j < 15 -> w.cell? ⟨b, off + j, none⟩ = some (.string (bs (wordsL.getD j [])))
  counts : ∀ j, j < 15 -> w.cell? ⟨1, j, none⟩ = some (.int .i64 (countsL.getD j 0 : Nat))
  synt : ∃ tp p, w.cell? ⟨2, 0, none⟩ = some (.iface tp p)
  rang : ∃ tp p, w.cell? ⟨3, 0, none⟩ = some (.iface tp p)
  pow : Lib.TabBelow Tryz.prog B w "internal/strconv.uint64pow10" .u64 Lib.pow10Tab
  maxl : ∃ m, w.cell? ⟨5, 0, none⟩ = some (.int .i64 m)
theorem LineAt.below {B : Nat} {w w' : World} (h : LineAt B w) (hb : Below B w w') : LineAt B w' := by
  have hc : ∀ b o, b < B -> w'.cell? ⟨b, o, none⟩ = w.cell? ⟨b, o, none⟩ := fun b o hlt => World.cell?_of_block (w := w) (hb.block b hlt)
  obtain ⟨l1, l2, l3, l4, l5⟩ := h.low
  obtain ⟨b, off, c, h1, h2, h3, h4⟩ := h.words
  obtain ⟨t1, p1, h5⟩ := h.synt
  obtain ⟨t2, p2, h6⟩ := h.rang
  obtain ⟨m, h7⟩ := h.maxl
  exact ⟨Nat.le_trans h.size hb.size, h.low, ⟨b, off, c, by rw [hc _ _ (by omega)]; exact h1, h2, h3, fun j hj => by rw [hc _ _ h3]; exact h4 j hj⟩,
    (fun j hj => by rw [hc _ _ (by omega)]; exact h.counts j hj), ⟨t1, p1, by rw [hc _ _ (by omega)]; exact h5⟩, ⟨t2, p2, by rw [hc _ _ (by omega)]; exact h6⟩, h.pow.on hb, ⟨m, by rw [hc _ _ (by omega)]; exact h7⟩⟩
def isWord (t : Txt) : Bool := decide (1 <= kindOf t) && decide (kindOf t <= 14)
def wordsB : List ByteArray := wordsL.map bs
theorem word_in (t : Txt) : Lib.containsS (wordsB.drop 1) (bs t) = isWord t := by
  have h1 : (bs t ∈ wordsB.drop 1) ↔ t ∈ wordsL.drop 1 := by
    rw [wordsB, <- List.map_drop, List.mem_map]
    exact ⟨fun ⟨a, ha, e⟩ => by rw [<- bs_inj e]; exact ha, fun h => ⟨t, h, rfl⟩⟩
  have h2 : t ∈ wordsL.drop 1 ↔ 1 <= kindOf t /\ kindOf t <= 14 := by
    constructor
    · intro h
      obtain ⟨j, hj, e⟩ := List.mem_iff_getElem.1 h
      have hj' : j < 14 := by simpa [wordsL] using hj
      have e2 : t = wordsL.getD (j + 1) [] := by
        rw [<- e, List.getElem_drop, List.getD_eq_getElem?_getD, List.getElem?_eq_getElem (by simp [wordsL]; omega)]
        simp [Nat.add_comm]
      rw [e2, words_kind (j + 1) (by omega)]; omega
    · rintro ⟨h1, h2⟩
      have hlt : kindOf t < wordsL.length := by simp [wordsL]; omega
      have hg : wordsL[kindOf t] = t := by
        have := List.getElem_idxOf (x := t) (xs := wordsL) hlt
        exact this
      rw [List.mem_iff_getElem]
      refine ⟨kindOf t - 1, by simp [wordsL]; omega, ?_⟩
      rw [List.getElem_drop]
      have : 1 + (kindOf t - 1) = kindOf t := by omega
      simp only [this]; exact hg
  rw [Bool.eq_iff_iff, Lib.containsS_iff, h1, h2]; simp [isWord]
def ordA (o : Order) : Array Value := #[.int .i64 o.kind, .int .i64 o.a, .int .i64 o.b, .int .i64 o.c]
def noO : Order := ⟨0, 0, 0, 0⟩
def oOf (r : Option Order) : Order := r.getD noO
def eOf (r : Option Order) : Int := if r.isSome then 0 else 1
end Go.Proofs.YtifmdkcpbajdcabGreatDoor
namespace Go.Proofs.YtifmdkcpbajdcabGreatDoor
open Go.RowKit Go.Proofs Plain
def RetStr (l : List ByteArray) (w : World) (e : Ending) (w' : World) : Prop :=
  ∃ A c, e = .returned (.slice A l.length c) /\ StrAt w' A l /\ Below w.heap.size w w'
theorem splitT_any (B : Nat) (s : ByteArray) (w : World) (hL : LineAt B w) (hs : s.size <= 60) :
    Calls Tryz.prog 34 #[.string s, .string { data := #[32] }] w (RetStr (pieces s) w) := by
  obtain ⟨m, hm⟩ := hL.maxl
  refine (Tryz.strings_Split s ⟨#[32]⟩ m w (by omega) hm (Nat.le_refl _)).mono ?_
  rintro e w' ⟨rfl, rfl⟩
  have hl : (pieces s).length = Lib.countB s ⟨#[32]⟩ + 1 := Lib.splitB_all ⟨#[32]⟩ (Nat.le_refl _) 0 _ s rfl
  refine ⟨_, Lib.countB s ⟨#[32]⟩ + 1, by rw [hl], ?_, (Below.refl _ _).alloc (Nat.le_refl _) _⟩
  have h := Sl.new (size := 1) (n := (pieces s).length) w ((pieces s).map Value.string).toArray 9 (by simp)
  rw [List.toList_toArray] at h
  exact h
theorem hasword_any (b off c : Nat) (x : ByteArray) (w : World) (hc : ∀ j, j < 15 -> w.cell? ⟨b, off + j, none⟩ = some (.string (bs (wordsL.getD j [])))) :
    Calls Tryz.prog 35 #[.slice (some ⟨b, off + 1, none⟩) 14 c, .string x] w fun e w' => e = .returned (.bool (isWord x.data.toList)) /\ w' = w := by
  have hl : (wordsB.drop 1).length = 14 := by simp [wordsB, wordsL]
  refine (Tryz.slices_Contains_string b (off + 1) 14 c (wordsB.drop 1) x w (by omega) (by decide) (fun j hj => ?_)).mono ?_
  · rw [hl] at hj
    have := hc (j + 1) (by omega)
    rw [show off + 1 + j = off + (j + 1) by omega, this]
    congr 2
    rw [List.getD_eq_getElem?_getD, List.getD_eq_getElem?_getD, List.getElem?_drop, wordsB, List.getElem?_map, Nat.add_comm 1 j, List.getElem?_eq_getElem (by simp [wordsL]; omega)]
    rfl
  · rintro e w' ⟨rfl, rfl⟩
    rw [List.take_of_length_le (by omega)]
    have := word_in x.data.toList
    rw [bs_back] at this
    rw [this]
    exact ⟨rfl, rfl⟩
theorem kind_any (b off c : Nat) (x : ByteArray) (w : World) (hx : isWord x.data.toList = true) (hc : ∀ j, j < 15 -> w.cell? ⟨b, off + j, none⟩ = some (.string (bs (wordsL.getD j [])))) :
    Calls Tryz.prog 36 #[.slice (some ⟨b, off, none⟩) 15 c, .string x] w fun e w' => e = .returned (.int .i64 (kindOf x.data.toList : Nat)) /\ w' = w := by
  have hl : wordsB.length = 15 := by simp [wordsB, wordsL]
  have hg : ∀ j, j < 15 -> wordsB.getD j ByteArray.empty = bs (wordsL.getD j []) := fun j hj => by
    rw [List.getD_eq_getElem?_getD, List.getD_eq_getElem?_getD, wordsB, List.getElem?_map, List.getElem?_eq_getElem (by simp [wordsL]; omega)]
    rfl
  simp only [isWord, Bool.and_eq_true, decide_eq_true_eq] at hx
  refine (Tryz.slices_Index_string b off 15 c wordsB x w (by omega) (by decide) (fun j hj => ?_)).mono ?_
  · rw [hl] at hj
    rw [hc j hj, hg j hj]
  · rintro e w' ⟨rfl, rfl⟩
    rw [Lib.idxOfS_hit wordsB 15 (kindOf x.data.toList) x (by omega) (by omega) ?_ ?_]
    · exact ⟨rfl, rfl⟩
    · rw [hg _ (by omega)]
      have hlt : kindOf x.data.toList < wordsL.length := by simp [wordsL]; omega
      have := List.getElem_idxOf (x := x.data.toList) (xs := wordsL) hlt
      rw [List.getD_eq_getElem?_getD, List.getElem?_eq_getElem hlt]
      show bs (wordsL[kindOf x.data.toList]) = x
      have h2 : wordsL[kindOf x.data.toList] = x.data.toList := this
      rw [h2, bs_back]
    · intro j hj e
      rw [hg j (by omega)] at e
      have := words_kind j (by omega)
      rw [<- bs_list (wordsL.getD j []), e] at this
      omega
theorem atoi_ok (B : Nat) (s : ByteArray) (v : Int) (w : World) (_hL : LineAt B w) (hs : s.size <= 60) (h : Lib.atoiAll s.data.toList = .ok v) :
    Calls Tryz.prog 37 #[.string s] w fun e w' => e = .returned (.tuple #[.int .i64 v, .nilIface]) /\ Below w.heap.size w w' := by
  refine (Tryz.strconv_Atoi_ok s (by omega) v h w).mono ?_
  rintro e w' ⟨rfl, hw⟩
  refine ⟨rfl, ?_⟩
  rcases hw with rfl | ⟨t, rfl⟩
  · exact Below.refl _ _
  · exact Lib.bytesWorld_below _ _ _
def RetNo (w : World) (e : Ending) (w' : World) : Prop := ∃ v t p, e = .returned (.tuple #[.int .i64 v, .iface t p]) /\ Below w.heap.size w w'
theorem atoi_no (B : Nat) (s : ByteArray) (w : World) (hL : LineAt B w) (hs : s.size <= 60) (h : ∀ v, Lib.atoiAll s.data.toList ≠ .ok v) :
    Calls Tryz.prog 37 #[.string s] w (RetNo w) := by
  obtain ⟨t1, p1, h1⟩ := hL.synt
  obtain ⟨t2, p2, h2⟩ := hL.rang
  rcases hq : Lib.atoiAll s.data.toList with v | _ | _
  · exact absurd hq (h v)
  · refine (Any.strconv_Atoi_syntax Tryz.laysC172 s (by omega) hq _ w h1 (.inr ⟨_, _, rfl⟩)).mono ?_
    rintro e w' ⟨N, rfl, _, _, hb⟩
    exact ⟨_, _, _, rfl, hb⟩
  · refine (Any.strconv_Atoi_range Tryz.laysC172 s (by omega) hq _ w h2 (.inr ⟨_, _, rfl⟩)).mono ?_
    rintro e w' ⟨N, rfl, _, _, hb⟩
    exact ⟨_, _, _, rfl, hb⟩
theorem itoa_any (B : Nat) (n : Int) (w : World) (hL : LineAt B w) (h0 : -9223372036854775808 <= n) (h1 : n <= 9223372036854775807) :
    Calls Tryz.prog 38 #[.int .i64 n] w fun e w' => e = .returned (.string (bs (Lib.itoa n))) /\ Below w.heap.size w w' := by
  refine (Tryz.strconv_Itoa n h0 h1 w hL.pow.here).mono ?_
  rintro e w' ⟨rfl, k, os, rfl⟩
  refine ⟨rfl, ⟨rfl, rfl, rfl, by simp [Go.Sort.grow], fun i hi => ?_⟩⟩
  show ((w.drewN k).heap ++ os)[i]? = w.heap[i]?
  rw [Array.getElem?_append_left (by exact hi)]; rfl
end Go.Proofs.YtifmdkcpbajdcabGreatDoor
